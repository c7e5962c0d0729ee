/- bytes.Repeat at one octet. Conditions: the count is from 1 to 8192. -/
import Derived.Test.YtibnmekifaaacaaLibC
import Derived.Laws.CopyOwn
import Derived.Deep.RegionLaw
import Derived.Lib.MakeNoZero
namespace Go.Proofs.Ytibnmekifaaacaa
open Go.RowKit

theorem and_u64 (n : Int) (h0 : 0 ≤ n) (h1 : n ≤ 8192) : bits .and .u64 n 4294967295 = n := by
  obtain ⟨a, rfl⟩ := Int.eq_ofNat_of_zero_le h0
  show IntKind.u64.wrap ((BitVec.ofInt 64 (a : Int) &&& BitVec.ofInt 64 4294967295).toNat : Int) = _
  rw [BitVec.toNat_and, BitVec.ofInt_natCast, BitVec.toNat_ofNat, Nat.mod_eq_of_lt (by omega)]
  have h2 : (BitVec.ofInt 64 4294967295).toNat = 4294967295 := by decide
  rw [h2]
  have h3 : a &&& 4294967295 = a % 4294967296 := Nat.and_two_pow_sub_one_eq_mod _ 32
  rw [h3, Nat.mod_eq_of_lt (by omega)]
  show ((a : Int) % 18446744073709551616) = _
  omega
set_option maxRecDepth 100000 in
set_option maxHeartbeats 1000000 in
theorem lib_Mul64 {n : Int} {w : World} (h0 : 0 ≤ n) (h1 : n ≤ 8192) : Calls Try.prog 51 #[.int .u64 1, .int .u64 n] w (Ret (.tuple #[.int .u64 0, .int .u64 n]) w) := by
  have hA := and_u64 1 (by omega) (by omega)
  have hB := and_u64 n h0 h1
  have hC := and_u64 0 (by omega) (by omega)
  have hD : n / 4294967296 = 0 := by omega
  go_enter Try.func51, Try.ntmps51
  go_wp2
  go_ret2
  exact ⟨rfl, rfl⟩
set_option maxRecDepth 100000 in
set_option maxHeartbeats 1000000 in
theorem lib_Mul {n : Int} {w : World} (h0 : 0 ≤ n) (h1 : n ≤ 8192) : Calls Try.prog 41 #[.int .u64 1, .int .u64 n] w (Ret (.tuple #[.int .u64 0, .int .u64 n]) w) := by
  go_enter Try.func41, Try.ntmps41
  go_wp2_with (go_at_call 51; refine (lib_Mul64 h0 h1).mono ?_; rintro e w' ⟨rfl, rfl⟩)
  go_ret2
  exact ⟨rfl, rfl⟩

/-- block g is just these cells -/
abbrev Cells (w : World) (g : Nat) (E : TypeId) (cur : List Value) : Prop := w.heap[g]? = some (.cells cur.toArray E (0, 0))
/-- returns a slice of a whole block of the call's own, whose first n cells are the octet x -/
def RetRep (E : TypeId) (x : Int) (n : Nat) (w : World) (e : Ending) (w' : World) : Prop :=
  ∃ g c cur, e = .returned (.slice (some ⟨g, 0, none⟩) n c) ∧ w.heap.size ≤ g ∧ n ≤ c ∧ c ≤ cur.length ∧ cur.length ≤ maxLen ∧ Cells w' g E cur ∧ cur.take n = List.replicate n (.int .u8 x) ∧ Below w.heap.size w w'

set_option maxRecDepth 100000 in
set_option maxHeartbeats 400000 in
theorem lib_Repeat {A c} {x : Int} {n : Nat} {w : World} (hs : Sl w .u8 A 1 c [x]) (h0 : 0 < n) (h1 : n ≤ 8192) :
    Calls Try.prog 32 #[.slice A 1 c, .int .i64 (n : Int)] w (RetRep 5 x n w) := by
  obtain ⟨b, o, rfl, hb, hcell⟩ := hs.at_ (by omega)
  have hcell := hcell 0 (by omega)
  obtain ⟨cs, hrunM, hle, hmax⟩ := Lib.run_makeNoZero (P := Try.prog) w #[3] 22 5 Try.underlying22 n (by omega)
  have hcall : (callFunc 42 #[.int .i64 (n : Int)]).run Try.prog w = .ok (.value (.slice (some ⟨w.heap.size, 0, none⟩) n cs.size)) ((w.alloc (.cells cs 5)).drewN 2) := by
    rw [run_callFunc_extern Try.func42 (by kernel_rfl) (by kernel_rfl) (by kernel_rfl) (e := Extern.BytealgMakeNoZero.makeNoZero #[3] #[22]) (by kernel_rfl), hrunM]
    rfl
  clear hrunM
  have hmax1 := hmax (by unfold maxLen; omega)
  clear hmax
  have hmax2 : (cs.size : Int) ≤ 9223372036854775807 := by unfold maxLen at hmax1; omega
  have i1 : (n : Int) ≤ (cs.size : Int) := by omega
  obtain ⟨W, hW⟩ : ∃ W : World, W = (w.alloc (.cells cs 5)).drewN 2 := ⟨_, rfl⟩
  have hg : Cells W w.heap.size 5 cs.toList := by subst hW; show (w.alloc _).heap[w.heap.size]? = _; rw [heap_alloc_new]
  have hbW : Below w.heap.size w W := by subst hW; exact below_drewN ((Below.refl _ _).alloc (Nat.le_refl _) _) 2
  have hcW : W.cell? ⟨b, o, none⟩ = some (.int .u8 x) := (hbW.cell (p := ⟨b, o, none⟩) hb).trans (by simpa using hcell)
  clear hcell
  rw [← hW] at hcall
  have HW := Lib.hid hW; clear hW
  have HG := Lib.hid hg; clear hg
  have hsz : (Try.prog.info? 5).map (·.size) = some 1 := by kernel_rfl
  go_enter Try.func32, Try.ntmps32
  go_wp2_with (first | (go_at_call 41; refine (lib_Mul (by omega) (by omega)).mono ?_; rintro e w' ⟨rfl, rfl⟩) | (with_reducible refine wpList_copy_splice rfl (.tmp 58) (.tmp 59) _ _ rfl 5 Try.underlying22 hsz (some ⟨w.heap.size, 0, none⟩) (some ⟨b, o, none⟩) n n 1 c rfl rfl w.heap.size 0 cs.toList 5 HG.out [.int .u8 x] ?c1 ?c2 ?c3 ?c4 w.heap.size w hbW (Nat.le_refl _) ?c5))
  case c1 => show 1 = min 1 n; omega
  case c2 =>
    intro j v hj
    match j, hj with
    | 0, hj => simp at hj; subst hj; exact hcW
  case c3 => simp; omega
  case c4 => intro v hv; simp at hv; subst hv; rfl
  case c5 =>
    intro w2 hc2 hb2
    have hcs : ∃ cur, splice cs.toList 0 [Value.int .u8 x] = cur ∧ cur.length = cs.size ∧ cur.take 1 = [Value.int .u8 x] := by
      refine ⟨_, rfl, ?_, ?_⟩
      · rw [length_splice _ _ _ (by simp; omega)]; simp
      · simp [splice]
    obtain ⟨cur, hcur, hcl, hct⟩ := hcs
    rw [hcur] at hc2
    have HCT := Lib.hid hct; have HCL := Lib.hid hcl
    clear hcall hcur hcl hct HG
    go_wp2
    go_loopw [10, 11] (fun bp ch wr => ∃ (m : Nat) (cur : List Value), 1 ≤ m ∧ m ≤ n ∧ bp = .int .i64 m ∧ Hid (wr.heap[w.heap.size]? = some (.cells cur.toArray 5 (0, 0))) ∧ Hid (cur.length = cs.size ∧ cur.take m = List.replicate m (.int .u8 x)) ∧ Below w.heap.size w wr) (fun bp _ _ => n - (intOf bp).toNat)
    case atStart => exact ⟨1, cur, by omega, by omega, rfl, hc2, ⟨HCL.out, HCT.out⟩, hb2⟩
    case round =>
      obtain ⟨m, cur, hm1, hm2, rfl, hgc, hI, hbel⟩ := hrel
      by_cases hlt : m < n
      · have hk : ∃ k, k = min m (n - m) := ⟨_, rfl⟩
        obtain ⟨k, hk⟩ := hk
        have hk1 : 1 ≤ k := by omega
        have hk2 : k ≤ m := by omega
        have hk3 : m + k ≤ n := by omega
        have HK := Lib.hid hk; clear hk
        have hl1 : (List.replicate k (Value.int .u8 x)).length = Nat.min m (n - m) := by rw [List.length_replicate]; exact HK.out
        have hl2 : m + (List.replicate k (Value.int .u8 x)).length ≤ cur.length := by rw [List.length_replicate, hI.out.1]; omega
        have hl3 : ∀ v ∈ List.replicate k (Value.int .u8 x), v.oneCell' = true := by intro v hv; rw [List.eq_of_mem_replicate hv]; rfl
        have hsrc : ∀ (j : Nat) (v : Value), (List.replicate k (Value.int .u8 x))[j]? = some v → wr.cell? ((⟨w.heap.size, 0, none⟩ : Addr).add j) = some v := by
          intro j v hj
          have hjk : j < k := by
            rcases Nat.lt_or_ge j k with h | h
            · exact h
            · rw [List.getElem?_eq_none (by simp; omega)] at hj; cases hj
          have hadd : (⟨w.heap.size, 0, none⟩ : Addr).add j = ⟨w.heap.size, j, none⟩ := by unfold Addr.add; split <;> simp_all
          rw [hadd, cell_of_row wr w.heap.size j _ 5 (0, 0) hgc.out]
          have h5 : (cur.take m)[j]? = (List.replicate m (Value.int .u8 x))[j]? := by rw [hI.out.2]
          rw [List.getElem?_take, if_pos (by omega)] at h5
          rw [List.getElem?_replicate, if_pos hjk] at hj
          rw [List.getElem?_replicate, if_pos (by omega)] at h5
          simp only [List.getElem?_toArray]
          rw [h5, ← hj]
        have hsrcD : ∀ (j : Nat) (v : Value), (List.replicate k (Value.int .u8 x))[j]? = some v → wr.drew.cell? ((⟨w.heap.size, 0, none⟩ : Addr).add j) = some v := hsrc
        have HS := Lib.hid hsrcD
        have HL1 := Lib.hid hl1; have HL2 := Lib.hid hl2
        clear hl1 hl2
        have hsum : IntKind.i64.wrap ((m : Int) + (k : Int)) = (m : Int) + (k : Int) := IntWalk.i64_in _ (by omega)
        clear hsrc hsrcD
        have hgD : Hid (wr.drew.heap[w.heap.size]? = some (.cells cur.toArray 5 (0, 0))) := hgc
        have hbD := hbel.drew
        have i2 : (m : Int) < (n : Int) := by omega
        have i3 : (m : Int) ≤ (n : Int) := by omega
        have hne : ¬ n = m := by omega
        go_wp2_with fail
        go_region_law ((with_reducible refine step_copy_splice rfl (.tmp 70) (.tmp 73) _ _ rfl 5 Try.underlying22 hsz (some ⟨w.heap.size, m, none⟩) (some ⟨w.heap.size, 0, none⟩) (n - m) (n - m) m n ?hd ?hs w.heap.size m cur 5 hgD.out (List.replicate k (Value.int .u8 x)) HL1.out (fun _ => ⟨rfl, _, rfl, HS.out⟩) HL2.out hl3 w.heap.size w hbD (Nat.le_refl _) ?_); (case hd => go_simp); (case hs => go_simp); intro w3 hc3 hb3)
        have hnew : (splice cur m (List.replicate k (Value.int .u8 x))).length = cs.size ∧ (splice cur m (List.replicate k (Value.int .u8 x))).take (m + k) = List.replicate (m + k) (.int .u8 x) := by
          refine ⟨by rw [length_splice _ _ _ (by rw [List.length_replicate]; have := HL2.out; rw [List.length_replicate] at this; exact this), hI.out.1], ?_⟩
          unfold splice
          rw [hI.out.2, ← List.append_assoc, List.replicate_append_replicate, List.take_append_of_le_length (by simp), List.take_of_length_le (by simp)]
        have HN := Lib.hid hnew; clear hnew
        go_wp2
        refine ⟨?_, ?_⟩
        · (repeat apply Exists.intro)
          exact ⟨⟨m + k, _, by omega, by omega, by go_num, hc3, HN.out, hb3⟩, rfl⟩
        · show n - ((m : Int) + (k : Int)).toNat < n - ((m : Int)).toNat
          omega
      · obtain rfl : m = n := by omega
        go_wp2
        go_ret
        exact ⟨w.heap.size, m, cur, rfl, Nat.le_refl _, Nat.le_refl _, by rw [hI.out.1]; exact hle, by rw [hI.out.1]; exact hmax1, hgc.out, hI.out.2, hbel⟩
end Go.Proofs.Ytibnmekifaaacaa
