/- Layer 44 (uue): a line, by the program: what its function returns. Conditions: the argument reads as a list; lengths at most 2^22. -/
import Derived.Test.Ytlmkhjegckgmcaa44C
namespace Go.Proofs.Ytlmkhjegckgmcaa
open Go.RowKit

def Held (h m : Int) : Prop := (m = 0 ∧ h = 0) ∨ (m = 1 ∧ 0 ≤ h ∧ h < 256) ∨ (m = 2 ∧ 0 ≤ h ∧ h < 65536)
theorem grpS_on {x : Int} {r : List Int} {h m : Int} (hm : m ≠ 2) : grpS (x :: r) h m = grpS r (h * 256 + x) (m + 1) := by rw [grpS, if_neg hm]
theorem grpS_off {x : Int} {r : List Int} {h : Int} : grpS (x :: r) h 2 = quadH (h * 256 + x) ++ grpS r 0 0 := by rw [grpS, if_pos rfl]
theorem grpS_end1 {h : Int} : grpS [] h 1 = grpS [] (h * 256 + 0) 2 := by simp [grpS]
theorem grpS_end2 {h : Int} : grpS [] h 2 = quadH (h * 256 + 0) := by simp [grpS]
theorem grpS_end0 {h : Int} : grpS [] h 0 = [] := by simp [grpS]
theorem quadH_len (z : Int) : (quadH z).length = 4 := rfl
/-- how many octets are to be put before nothing is held -/
def manyOf (g : Nat) (W : World) : Nat := match W.cell? ⟨g, 2, none⟩ with | some (.int _ m) => if m = 0 then 0 else (3 - m).toNat | _ => 0
theorem manyOf_eq {B g : Nat} {h m : Int} {v : Value} {ys : List Int} {W : World} (H : LC B g h m v ys W) : manyOf g W = if m = 0 then 0 else (3 - m).toNat := by
  unfold manyOf; rw [H.c2]
theorem LC.drew {B g : Nat} {h m : Int} {v : Value} {ys : List Int} {W : World} (H : LC B g h m v ys W) : LC B g h m v ys W.drew := H.below (Below.refl _ _).drew

theorem heap_alloc (w : World) (o : Obj) : (w.alloc o).heap[w.heap.size]? = some o := Array.getElem?_push_size
theorem LC.start {B : Nat} {v : Value} {ys : List Int} {W : World} (ho : Own W B 5 .u8 v ys) (hB : B ≤ W.heap.size) : LC B W.heap.size 0 0 v ys (W.alloc (.cells #[v, .int .i64 0, .int .i64 0] 74)) :=
  ⟨by rw [World.cell?_alloc_at _ _ _ _ rfl]; rfl, by rw [World.cell?_alloc_at _ _ _ _ rfl]; rfl, by rw [World.cell?_alloc_at _ _ _ _ rfl]; rfl,
   World.frozen?_alloc_at _ _ _ _ rfl, World.frozen?_alloc_at _ _ _ _ rfl, World.frozen?_alloc_at _ _ _ _ rfl, ho.alloc _, hB, ⟨_, _, heap_alloc _ _⟩⟩

set_option maxRecDepth 100000 in
set_option maxHeartbeats 4000000 in
theorem p44_Line {A n c xs} {w : World} (hs : Sl w .u8 A n c xs) (hn : n ≤ 4194304) : Calls Try.prog 48 #[.slice A n c] w (RetOwn id 5 .u8 (lineU xs) w) := by
  have hln := hs.len
  have hle := hs.le
  have hcm := hs.cm
  unfold maxLen at hcm
  obtain ⟨q, hq⟩ : ∃ q : Nat, min (n : Int) 45 = (q : Int) := ⟨min n 45, by omega⟩
  have hq1 : q ≤ n := by omega
  have hq2 : q ≤ 45 := by omega
  have hs1 := hs.take_ (m := q) hq1
  have htk : xs.take q = xs.take 45 := by
    by_cases h45 : n ≤ 45
    · rw [List.take_of_length_le (by omega), List.take_of_length_le (by omega)]
    · rw [show q = 45 from by omega]
  have hlu : lineU xs = digU (q : Int) :: grp (xs.take q) := by unfold lineU; rw [← htk, hs1.len]
  obtain ⟨ys, hys⟩ : ∃ ys, xs.take q = ys := ⟨_, rfl⟩
  rw [hys] at hs1 hlu
  rw [hlu, ← grpS_eq ys fun x hx => wf_u8.1 (hs1.wf x hx)]
  clear hlu hys htk hln
  have hent := enters_of Try.func70 (by kernel_rfl) rfl
  have hL0 := LC.start (Own.one w .u8 5 (digU q) (digU_wf _) (Nat.le_refl w.heap.size)) (by simp)
  rw [World.size_alloc] at hL0
  have hb0 : Below w.heap.size w ((w.alloc (.cells #[.int .u8 (digU q)] 5)).alloc (.cells #[.slice (some ⟨w.heap.size, 0, none⟩) 1 1, .int .i64 0, .int .i64 0] 74)) :=
    ((Below.refl _ _).alloc (Nat.le_refl _) _).alloc (by simp) _
  go_enter Try.func48, Try.ntmps48
  go_wp2_with (first | (go_at_call 50; refine p44_Digit.mono ?_; rintro e w' ⟨rfl, rfl⟩))
  go_loopw [22] (fun i wr => ∃ (k : Nat) (h m : Int) (v : Value) (zs : List Int), k ≤ q ∧ i = .int .i64 k ∧ Held h m ∧ zs.length ≤ 4 * k ∧ Hid (grpS ys 0 0 = zs ++ grpS (ys.drop k) h m) ∧ LC w.heap.size (w.heap.size + 1) h m v (digU q :: zs) wr ∧ Below w.heap.size w wr) (fun i _ => q - (intOf i).toNat)
  case atStart => exact ⟨0, 0, 0, _, [], by omega, rfl, .inl ⟨rfl, rfl⟩, by simp, rfl, hL0, hb0⟩
  case round =>
    clear hL0 hb0
    obtain ⟨k, h, m, v, zs, hk, rfl, hH, hzl, hI, H, hbel⟩ := hrel
    have hs2 := hs1.bel hbel
    have hlt0 := H.lt
    by_cases hlt : k < q
    · obtain ⟨b, o, x, rfl, hb, hcell, hwf, hd, _⟩ := hs2.get hlt
      have HD := Lib.hid hd; clear hd
      obtain ⟨hx1, hx2⟩ := wf_u8.1 hwf
      by_cases h2 : m = 2
      · subst h2
        have hh : 0 ≤ h ∧ h < 65536 := by
          rcases hH with hH | hH | hH
          · exact absurd hH.1 (by decide)
          · exact absurd hH.1 (by decide)
          · exact hH.2
        have hn1 : Hid (grpS ys 0 0 = (zs ++ quadH (h * 256 + x)) ++ grpS (ys.drop (k + 1)) 0 0) := by show _ = _; rw [hI.out, HD.out, grpS_off, List.append_assoc]
        clear hI HD
        go_wp2_with fail
        refine (p44_put3 H hh.1 hh.2 hwf (by simp only [List.length_cons]; omega)).mono ?_
        rintro e w1 ⟨rfl, ⟨v1, H1⟩, hb1⟩
        have hB1 := hbel.trans hb1
        go_wp2
        (first | (go_roundw; (case rel => exact ⟨k + 1, 0, 0, v1, _, by omega, by go_num, .inl ⟨rfl, rfl⟩, by rw [List.length_append, quadH_len]; omega, hn1, H1, hB1⟩); (case measure => first | (simp [intOf] <;> omega) | (simp [lenOf] <;> omega))) | (refine ⟨?_, ?measure⟩; (repeat apply Exists.intro); refine ⟨?rel, ?eqs⟩; (case eqs => first | rfl | ((repeat (refine ⟨rfl, ?_⟩)); rfl)); (case rel => exact ⟨k + 1, 0, 0, v1, _, by omega, by go_num, .inl ⟨rfl, rfl⟩, by rw [List.length_append, quadH_len]; omega, hn1, H1, hB1⟩); (case measure => first | (simp [intOf] <;> omega) | (simp [lenOf] <;> omega))) | ((repeat apply Exists.intro); refine ⟨?rel, ?eqs⟩; (case eqs => first | rfl | ((repeat (refine ⟨rfl, ?_⟩)); rfl)); (case rel => exact ⟨k + 1, 0, 0, v1, _, by omega, by go_num, .inl ⟨rfl, rfl⟩, by rw [List.length_append, quadH_len]; omega, hn1, H1, hB1⟩)))
      · have hm : m = 0 ∨ m = 1 := by
          rcases hH with hH | hH | hH
          · exact .inl hH.1
          · exact .inr hH.1
          · exact absurd hH.1 h2
        have hh : 0 ≤ h ∧ h < 256 := by
          rcases hH with hH | hH | hH
          · omega
          · omega
          · exact absurd hH.1 h2
        have hH2 : Held (h * 256 + x) (m + 1) := by
          rcases hH with hH | hH | hH
          · exact .inr (.inl (by omega))
          · exact .inr (.inr (by omega))
          · exact absurd hH.1 h2
        have hn1 : Hid (grpS ys 0 0 = zs ++ grpS (ys.drop (k + 1)) (h * 256 + x) (m + 1)) := by show _ = _; rw [hI.out, HD.out, grpS_on h2]
        clear hI HD
        go_wp2_with fail
        refine (p44_put1 H hm hh.1 (by omega) hwf).mono ?_
        rintro e w1 ⟨rfl, ⟨v1, H1⟩, hb1⟩
        have hB1 := hbel.trans hb1
        go_wp2
        (first | (go_roundw; (case rel => exact ⟨k + 1, _, _, v1, _, by omega, by go_num, hH2, by omega, hn1, H1, hB1⟩); (case measure => first | (simp [intOf] <;> omega) | (simp [lenOf] <;> omega))) | (refine ⟨?_, ?measure⟩; (repeat apply Exists.intro); refine ⟨?rel, ?eqs⟩; (case eqs => first | rfl | ((repeat (refine ⟨rfl, ?_⟩)); rfl)); (case rel => exact ⟨k + 1, _, _, v1, _, by omega, by go_num, hH2, by omega, hn1, H1, hB1⟩); (case measure => first | (simp [intOf] <;> omega) | (simp [lenOf] <;> omega))) | ((repeat apply Exists.intro); refine ⟨?rel, ?eqs⟩; (case eqs => first | rfl | ((repeat (refine ⟨rfl, ?_⟩)); rfl)); (case rel => exact ⟨k + 1, _, _, v1, _, by omega, by go_num, hH2, by omega, hn1, H1, hB1⟩)))
    · rw [List.drop_eq_nil_of_le (by have := hs1.len; omega)] at hI
      go_wp2
      go_loopw [] (fun wr => ∃ (h m : Int) (v : Value) (zs : List Int), Held h m ∧ (m ≠ 0 ∧ zs.length ≤ 180 ∨ zs.length ≤ 184 ∧ m = 0) ∧ Hid (grpS ys 0 0 = zs ++ grpS [] h m) ∧ LC w.heap.size (w.heap.size + 1) h m v (digU q :: zs) wr ∧ Below w.heap.size w wr) (fun wr => manyOf (w.heap.size + 1) wr)
      case atStart => exact ⟨h, m, v, zs, hH, by omega, hI, H, hbel⟩
      case round =>
        clear H hbel hI hH hzl hs2
        obtain ⟨h, m, v, zs, hH, hzl, hI, H, hbel⟩ := hrel
        have hc2 := H.c2
        have hlt1 := H.lt
        have hm0 := manyOf_eq H
        rcases hH with ⟨rfl, rfl⟩ | ⟨rfl, hh0, hh1⟩ | ⟨rfl, hh0, hh1⟩
        · have hI2 := hI.out
          rw [grpS_end0, List.append_nil] at hI2
          have HI := Lib.hid hI2
          have hc0 := H.c0
          have hown := H.own
          clear hI hI2 hm0 H
          go_wp2
          go_ret
          exact ⟨_, rfl, by rw [HI.out]; exact hown, hbel⟩
        · have hI2 := hI.out
          rw [grpS_end1] at hI2
          have HI := Lib.hid hI2
          clear hI hI2
          have HM := Lib.hid hm0; clear hm0
          go_wp2_with fail
          refine (p44_put1 H (.inr rfl) hh0 (by omega) (by decide)).mono ?_
          rintro e w1 ⟨rfl, ⟨v1, H1⟩, hb1⟩
          have hB1 := hbel.trans hb1
          go_wp2
          (go_roundw; (case rel => exact ⟨h * 256 + 0, 2, v1, zs,   .inr (.inr ⟨rfl, by omega, by omega⟩), by omega, HI, H1, hB1⟩); (case measure => rw [manyOf_eq H1, HM.out]; decide))
        · have hI2 := hI.out
          rw [grpS_end2] at hI2
          have hI3 : Hid (grpS ys 0 0 = (zs ++ quadH (h * 256 + 0)) ++ grpS [] 0 0) := by show _ = _; rw [hI2, grpS_end0, List.append_nil]
          clear hI hI2
          have HM := Lib.hid hm0; clear hm0
          go_wp2_with fail
          refine (p44_put3 H hh0 hh1 (by decide) (by simp only [List.length_cons]; omega)).mono ?_
          rintro e w1 ⟨rfl, ⟨v1, H1⟩, hb1⟩
          have hB1 := hbel.trans hb1
          go_wp2
          (go_roundw; (case rel => exact ⟨0, 0, v1, _, .inl ⟨rfl, rfl⟩, by (rw [List.length_append, quadH_len]; omega), hI3, H1, hB1⟩); (case measure => rw [manyOf_eq H1, HM.out]; decide))
end Go.Proofs.Ytlmkhjegckgmcaa
