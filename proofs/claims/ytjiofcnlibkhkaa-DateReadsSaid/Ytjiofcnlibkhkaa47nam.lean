/- Layer 47 (date): the program's name: the place of a name among names. Conditions: the octets read as a list of at most 2^22; the variable MaxLen holds a number. -/
import Derived.Test.Ytjiofcnlibkhkaa47idx
import Derived.Test.Ytjiofcnlibkhkaa01F
import Derived.Test.YtjiofcnlibkhkaaShelf
import Derived.IntWalk
namespace Go.Proofs.Ytjiofcnlibkhkaa
open Go.RowKit

/-- the variable that strings.Index asks holds a number -/
def MaxL (w : World) : Prop := ∃ m : Int, w.cell? ⟨0, 0, none⟩ = some (.int .i64 m)
theorem MaxL.belB {B : Nat} {w w' : World} (h : MaxL w) (hb : Below B w w') (hB : w.heap.size ≤ B) : MaxL w' := by
  obtain ⟨m, hm⟩ := h
  exact ⟨m, (hb.cell (Nat.lt_of_lt_of_le (World.block_lt_of_cell? w _ hm) hB)).trans hm⟩
theorem MaxL.bel {w w' : World} (h : MaxL w) (hb : Below w.heap.size w w') : MaxL w' := h.belB hb (Nat.le_refl _)
theorem strOfNums_natL {xs : List Int} (h : ∀ x ∈ xs, (Lit.int .u8 x).wf = true) : natL (strOfNums xs).data.toList = xs := by
  have e2 : (strOfNums xs).data.toList = Lib.bytesOf xs := by simp [strOfNums, Lib.bytesOf]
  rw [e2]; exact natL_bytesOf h
set_option maxRecDepth 100000 in
set_option maxHeartbeats 1000000 in
theorem p47_name {A : Option Addr} {n c : Nat} {xs : List Int} {w : World} {D : ByteArray} {tbl : List (List UInt8)} (hs : Sl w .u8 A n c xs) (hn : n ≤ 4194304) (T : NameTbl D tbl) (hD : D.size ≤ 36) (hm : MaxL w) :
    Calls Try.prog 44 #[.slice A n c, .string D] w (RetB (.int .i64 (nameV tbl xs)) w) := by
  have HL := Lib.hid hs.len
  have hle := hs.le
  have hcm := hs.cm
  unfold maxLen at hcm
  go_enter Try.func44, Try.ntmps44
  go_wp2_with fail
  refine (p01_Fold hs (by omega)).mono ?_
  rintro e w1 ⟨v, rfl, ho, hb1⟩
  obtain ⟨A1, n1, c1, rfl, hs1⟩ := ho.sl
  have hl1 : n1 = n := by rw [← hs1.len, fld_len]; exact HL.out
  obtain ⟨m, hm1⟩ := hm.bel hb1
  have hcv := hs1.str (P := Try.prog) 30 5 9 Try.underlying30 Try.underlying5 Try.underlying9
  obtain ⟨s, hsS⟩ : ∃ s, strOfNums (fldL xs) = s := ⟨_, rfl⟩
  rw [hsS] at hcv
  have hidx := Try.strings_Index D s m w1 (by omega) hm1
  have hge := Lib.index_ge D.data.toList s.data.toList
  by_cases h3 : n = 3
  · have hs3 : s.data.toList.length = 3 := by
      have := strOfNums_natL hs1.wf
      rw [hsS] at this
      have h5 := congrArg List.length this
      rw [hs1.len] at h5
      simp only [natL, List.length_map] at h5
      omega
    have hv : nameV tbl xs = idxB tbl s.data.toList 0 := by
      unfold nameV
      rw [if_pos (by rw [HL.out]; exact h3), ← idxW_B, ← hsS, strOfNums_natL hs1.wf]; rfl
    have hsay := T.says hs3
    obtain ⟨ix, hix⟩ : ∃ ix, Lib.index D.data.toList s.data.toList = ix := ⟨_, rfl⟩
    obtain ⟨V, hV⟩ : ∃ V, idxB tbl s.data.toList 0 = V := ⟨_, rfl⟩
    rw [hix] at hidx hge hsay
    rw [hV] at hsay hv
    subst h3
    have HV := Lib.hid hv
    clear hix hV hv hsS hl1 hm1
    rcases hsay with ⟨rfl, rfl⟩ | ⟨j, rfl, hj, ⟨h0, rfl⟩ | ⟨h0, rfl⟩⟩
    · go_wp2_with (go_at_call 56; refine hidx.mono ?_; rintro e w' ⟨rfl, rfl⟩)
      go_ret
      exact ⟨ret_int HV.out.symm, hb1⟩
    · have hq : ((j : Int) % 3 == 0) = true := by simp; omega
      have hq2 : ((j : Int) % 3) = 0 := by omega
      go_wp2_with (go_at_call 56; refine hidx.mono ?_; rintro e w' ⟨rfl, rfl⟩)
      go_ret
      exact ⟨ret_int (by rw [HV.out]; omega), hb1⟩
    · have hq : ((j : Int) % 3 == 0) = false := by simp; omega
      have hq2 : ¬ ((j : Int) % 3) = 0 := by omega
      go_wp2_with (go_at_call 56; refine hidx.mono ?_; rintro e w' ⟨rfl, rfl⟩)
      go_ret
      exact ⟨ret_int HV.out.symm, hb1⟩
  · have hv : nameV tbl xs = -1 := by unfold nameV; rw [if_neg (by rw [HL.out]; exact h3)]
    have hn3 : ¬ (n : Int) = 3 := by omega
    have hb3 : ((n : Int) == 3) = false := by simp; omega
    have HV := Lib.hid hv
    clear hv
    obtain ⟨ix, hix⟩ : ∃ ix, Lib.index D.data.toList s.data.toList = ix := ⟨_, rfl⟩
    rw [hix] at hidx hge
    clear hix hsS hl1 hm1
    go_wp2_with (go_at_call 56; refine hidx.mono ?_; rintro e w' ⟨rfl, rfl⟩)
    go_ret
    exact ⟨ret_int HV.out.symm, hb1⟩
end Go.Proofs.Ytjiofcnlibkhkaa
