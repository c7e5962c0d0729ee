/- Functions of Go's library over octets: what each returns, over the words of the Kit. Conditions: the arguments read as lists; lengths at most 2^30. -/
import Derived.Test.YtjiofcnlibkhkaaRows
import Derived.Test.YtjiofcnlibkhkaaKit
import Derived.Deep.Light
import Derived.Deep.QuietTactic
import Derived.BigQuiet
import Derived.Lib.BytesEntry
import Derived.Lib.Bytealg
namespace Go.Proofs.Ytjiofcnlibkhkaa
open Go.RowKit

theorem Try.info5 : (Try.prog.info? 5).map (fun i => (i.zero, i.size, i.bytes)) = some (some (.int .u8 0), 1, 1) := by kernel_rfl
theorem eltB : Elt Try.prog 30 5 .u8 1 := ⟨Try.underlying30, Try.info5⟩

/-- a text's octets -/
def natL (l : List UInt8) : List Int := l.map fun u => (u.toNat : Int)
def strL (s : ByteArray) : List Int := natL s.data.toList
theorem strL_length (s : ByteArray) : (strL s).length = s.size := by simp [strL, natL]
theorem strL_drop (s : ByteArray) (k : Nat) (h : k < s.size) : (strL s).drop k = ((s[k]).toNat : Int) :: (strL s).drop (k + 1) := by
  have hl : k < (strL s).length := by rw [strL_length]; exact h
  rw [List.drop_eq_getElem_cons hl]
  simp [strL, natL]; rfl
def hasL (l : List Int) (c : Int) : Bool := l.any fun x => decide (x = c)
def isB (c : Int) (x : Int) : Bool := decide (x = c)
theorem idx_shift (p : Int → Bool) (xs : List Int) (i : Int) (h : 0 ≤ i) : idx p xs (i + 1) = if idx p xs i = -1 then -1 else idx p xs i + 1 := by
  induction xs generalizing i with
  | nil => simp [idx]
  | cons x r ih =>
    by_cases hp : p x = true
    · simp [idx, hp]; omega
    · simp only [idx, hp]
      simpa using ih (i + 1) (by omega)
theorem indexByte_idx (l : List UInt8) (c : Int) (h : 0 ≤ c ∧ c ≤ 255) : Lib.indexByte l c.toNat.toUInt8 = idx (isB c) (natL l) 0 := by
  induction l with
  | nil => rfl
  | cons b r ih =>
    have e : (b == c.toNat.toUInt8) = isB c (b.toNat : Int) := by
      rw [Bool.eq_iff_iff]; simp only [beq_iff_eq, isB, decide_eq_true_iff]
      have hb := b.toNat_lt
      constructor
      · intro h'; subst h'; simp [Nat.toUInt8, UInt8.toNat_ofNat']; omega
      · intro h'; apply UInt8.toNat_inj.1; simp [Nat.toUInt8, UInt8.toNat_ofNat']; omega
    simp only [Lib.indexByte, natL, List.map_cons, idx, e]
    have sh := idx_shift (isB c) (natL r) 0 (by omega)
    rw [ih]
    simp only [Int.zero_add] at sh
    simp only [Int.zero_add, natL] at sh ⊢
    rw [sh]
    by_cases h1 : isB c (b.toNat : Int) = true <;> by_cases h2 : idx (isB c) (List.map (fun u : UInt8 => (u.toNat : Int)) r) 0 = -1 <;> simp [h1, h2]

set_option maxHeartbeats 400000 in
theorem lib_liteIndexByte {s : ByteArray} {c : Int} {w : World} (hc : (Lit.int .u8 c).wf = true) :
    Calls Try.prog 68 #[.string s, .int .u8 c] w (Ret (.int .i64 (idx (isB c) (strL s) 0)) w) := by
  go_enter Try.func68, Try.ntmps68
  go_wp2
  rw [run_callFunc_extern Try.func72 (by kernel_rfl) (by kernel_rfl) (by kernel_rfl) (e := Extern.BytealgIndexByte.indexByte) (by kernel_rfl), Lib.run_indexByteString]
  simp only [Result.andThen]
  rw [Oper.upon_value]
  go_wp2
  go_ret
  exact ⟨ret_int (indexByte_idx _ _ (wf_u8.1 hc)), rfl⟩
set_option maxHeartbeats 400000 in
theorem lib_strIndexByte {s : ByteArray} {c : Int} {w : World} (hc : (Lit.int .u8 c).wf = true) :
    Calls Try.prog 67 #[.string s, .int .u8 c] w (Ret (.int .i64 (idx (isB c) (strL s) 0)) w) := by
  go_enter Try.func67, Try.ntmps67
  go_wp2_with (go_at_call 68; refine (lib_liteIndexByte hc).mono ?_; rintro e w' ⟨rfl, rfl⟩)
  go_ret
  exact ⟨rfl, rfl⟩

theorem natL_bytesOf {xs : List Int} (h : ∀ x ∈ xs, (Lit.int .u8 x).wf = true) : natL (Lib.bytesOf xs) = xs := by
  induction xs with
  | nil => rfl
  | cons x r ih =>
    have hx := wf_u8.1 (h x (by simp))
    simp only [natL, Lib.bytesOf, List.map_cons] at ih ⊢
    rw [ih (fun y hy => h y (by simp [hy]))]
    congr 1
    simp [UInt8.toNat_ofNat']; omega


set_option maxHeartbeats 400000 in
theorem lib_BClone {A n c xs} {w : World} (hs : Sl w .u8 A n c xs) (hn : n ≤ 1073741824) :
    Calls Try.prog 64 #[.slice A n c] w (RetOwn id 5 .u8 xs w) := by
  have hnil := fun (W : World) => Lib.run_eql_slice_nil (P := Try.prog) W 30 5 A n c 0 0 Try.underlying30
  cases A with
  | none =>
    have h0 : xs = [] := List.eq_nil_of_length_eq_zero (by have := hs.nl rfl; have := hs.le; have := hs.len; omega)
    subst h0
    go_enter Try.func64, Try.ntmps64
    go_wp2
    go_ret
    exact ⟨_, rfl, Own.nil _ _ _ _, Below.refl _ _⟩
  | some a =>
    have hbel := Below.refl w.heap.size w
    go_enter Try.func64, Try.ntmps64
    go_wp2_with (at_builtin; refine wpList_app rfl rfl eltB (by decide) rfl rfl (Own.new0 _ _ _ (Nat.le_refl _)) (hs.alloc _) (hbel.alloc (Nat.le_refl _) _) (by refine ⟨?_, ?_⟩ <;> first | omega | (simp; done) | (simp; omega)) (by first | omega | (simp; done) | (simp; omega)) ?_; intro v1 w1 ho1 hb1 hg1)
    go_ret
    exact ⟨v1, rfl, by simpa using ho1, hb1⟩

set_option maxHeartbeats 400000 in
theorem r01_Like {A n c xs A' n' c' ys} {w : World} (hs : Sl w .u8 A n c xs) (ht : Sl w .u8 A' n' c' ys) :
    Calls Try.prog 18 #[.slice A n c, .slice A' n' c'] w (RetB (.bool (likeL xs ys)) w) := by
  have HL := Lib.hid hs.len; have hle := hs.le; have hcm := hs.cm; unfold maxLen at hcm
  have HL' := Lib.hid ht.len
  by_cases hne : n = n'
  · subst hne
    go_enter Try.func18, Try.ntmps18
    go_wp2
    go_loopw [5] (fun i wr => ∃ k : Nat, k ≤ n ∧ i = .int .i64 k ∧ Hid (likeL xs ys = likeL (xs.drop k) (ys.drop k)) ∧ Below w.heap.size w wr) (fun i _ => n - (intOf i).toNat)
    case atStart => exact ⟨0, Nat.zero_le _, rfl, rfl, Below.refl _ _⟩
    case round =>
      obtain ⟨k, hk, rfl, hI, hbel⟩ := hrel
      by_cases hlt : k < n
      · obtain ⟨b, o, x, rfl, hb, hcell, hwf, hd, _⟩ := (hs.bel hbel).get hlt
        obtain ⟨b', o', y, rfl, hb', hcell', hwf', hd', _⟩ := (ht.bel hbel).get hlt
        have HD := Lib.hid hd; clear hd
        have HD' := Lib.hid hd'; clear hd'
        by_cases hxy : x = y
        · subst hxy
          go_wp2_with fail
          go_quiet (fail)
          go_wp2
          (first | (go_roundw; (case rel => exact ⟨k + 1, by omega, by go_num, by go_light; show _ = _; rw [hI.out, HD.out, HD'.out]; simp [likeL], below_drewN hbel _⟩); (case measure => first | (simp [intOf] <;> omega) | (simp [lenOf] <;> omega))) | (refine ⟨?_, ?measure⟩; (repeat apply Exists.intro); refine ⟨?rel, ?eqs⟩; (case eqs => first | rfl | ((repeat (refine ⟨rfl, ?_⟩)); rfl)); (case rel => exact ⟨k + 1, by omega, by go_num, by go_light; show _ = _; rw [hI.out, HD.out, HD'.out]; simp [likeL], below_drewN hbel _⟩); (case measure => first | (simp [intOf] <;> omega) | (simp [lenOf] <;> omega))) | ((repeat apply Exists.intro); refine ⟨?rel, ?eqs⟩; (case eqs => first | rfl | ((repeat (refine ⟨rfl, ?_⟩)); rfl)); (case rel => exact ⟨k + 1, by omega, by go_num, by go_light; show _ = _; rw [hI.out, HD.out, HD'.out]; simp [likeL], below_drewN hbel _⟩)))
        · have hf : (x == y) = false := by simpa using hxy
          have hf' : (x != y) = true := by simpa using hxy
          go_wp2_with fail
          go_quiet (fail)
          go_wp2
          go_ret
          exact ⟨ret_bool (by rw [hI.out, HD.out, HD'.out]; simp [likeL, hxy]), below_drewN hbel _⟩
      · go_wp2
        go_ret
        exact ⟨ret_bool (by rw [hI.out, List.drop_eq_nil_of_le (by have := HL.out; omega), List.drop_eq_nil_of_le (by have := HL'.out; omega)]; rfl), hbel⟩
  · have hne' : (n == n') = false := by simpa using hne
    have hne'' : (n != n') = true := by simpa using hne
    go_enter Try.func18, Try.ntmps18
    go_wp2
    go_ret
    exact ⟨ret_bool (by have := HL.out; have := HL'.out; simp [likeL]; intro h; subst h; omega), Below.refl _ _⟩
end Go.Proofs.Ytjiofcnlibkhkaa
