/- Layer 47 (date): the reference's name: the place of a name among names. Condition: the octets read as a list of at most 2^22. -/
import Derived.Test.Ytjiofcnlibkhkaa47nam
import Derived.Test.YtjiofcnlibkhkaaExtW
import Derived.Deep.RegionHeld3
import Derived.Lib.ConvBytes
import Derived.Lib.AtoiErrMem
import Derived.BigQuiet
namespace Go.Proofs.Ytjiofcnlibkhkaa
open Go.RowKit

theorem Sl.ofBytes (w : World) (E : TypeId) (s : ByteArray) (hl : s.size ≤ 1000) :
    Sl (Lib.bytesWorld w E s) .u8 (some ⟨w.heap.size, 0, none⟩) s.size (grownCap w s.size 0 E) (strL s) := by
  have hcap := grownCap_ge w s.size 0 E
  refine ⟨strL_length s, hcap, grownCap_le_maxLen w s.size 0 E (by unfold maxLen; omega), by simp, fun x hx => ?_, fun hn => ⟨w.heap.size, 0, rfl, by rw [Lib.bytesWorld_size]; omega, fun j hj => ?_⟩⟩
  · simp only [strL, natL, List.mem_map] at hx
    obtain ⟨u, _, rfl⟩ := hx
    have := u.toNat_lt
    apply wf_u8.2; omega
  · rw [Nat.zero_add, Lib.bytesWorld_cell w E s j hj]
    congr 2
    have hj2 : j < s.data.toList.length := by rw [Array.length_toList]; exact hj
    simp [strL, natL, List.getD_eq_getElem?_getD, List.getElem?_map]
    cases s.data[j]? <;> rfl
/-- a text that is names of three letters, one behind the other, whatever their case -/
structure CapTbl (D : ByteArray) (tbl : List (List UInt8)) : Prop where
  size : D.size = 3 * tbl.length
  few : tbl.length ≤ 12
  at_ : ∀ q, q < tbl.length → fldL (strL (D.extract (3 * q) (3 * q + 3))) = natL (tbl.getD q [])
theorem dayCT : CapTbl { data := #[83, 117, 110, 77, 111, 110, 84, 117, 101, 87, 101, 100, 84, 104, 117, 70, 114, 105, 83, 97, 116] } dayB := ⟨by decide +kernel, by decide, by decide +kernel⟩
theorem monCT : CapTbl { data := #[74, 97, 110, 70, 101, 98, 77, 97, 114, 65, 112, 114, 77, 97, 121, 74, 117, 110, 74, 117, 108, 65, 117, 103, 83, 101, 112, 79, 99, 116, 78, 111, 118, 68, 101, 99] } monB := ⟨by decide +kernel, by decide, by decide +kernel⟩
theorem idxW_step {t : List (List Int)} {x : List Int} {q : Nat} {v : Int} (hq : q < t.length) : idxW (t.drop q) x v = if x = t.getD q [] then v else idxW (t.drop (q + 1)) x (v + 1) := by
  have e : t.drop q = t.getD q [] :: t.drop (q + 1) := by
    rw [List.drop_eq_getElem_cons hq]; simp [hq]
  rw [e]; rfl
/-- where the search stands: nothing found ahead of place i -/
def At47 (tbl : List (List UInt8)) (fx : List Int) (i : Nat) : Prop := i % 3 = 0 ∧ idxW (tbl.map natL) fx 0 = idxW ((tbl.map natL).drop (i / 3)) fx ((i / 3 : Nat) : Int)
theorem At47.hit {D : ByteArray} {tbl : List (List UInt8)} {fx : List Int} {i : Nat} (C : CapTbl D tbl) (h : At47 tbl fx i) (hi : i + 3 ≤ D.size) (hx : likeL fx (fldL (strL (D.extract i (i + 3)))) = true) : idxW (tbl.map natL) fx 0 = ((i / 3 : Nat) : Int) := by
  have hs := C.size
  have hq : i / 3 < tbl.length := by omega
  rw [h.2, idxW_step (by simpa using hq), if_pos]
  have e := C.at_ (i / 3) hq
  rw [show 3 * (i / 3) = i from by have := h.1; omega] at e
  have := of_decide_eq_true hx
  rw [this, e]
  simp [List.getD_eq_getElem?_getD, hq]
theorem At47.miss {D : ByteArray} {tbl : List (List UInt8)} {fx : List Int} {i : Nat} (C : CapTbl D tbl) (h : At47 tbl fx i) (hi : i + 3 ≤ D.size) (hx : likeL fx (fldL (strL (D.extract i (i + 3)))) = false) : At47 tbl fx (i + 3) := by
  have hs := C.size
  have hq : i / 3 < tbl.length := by omega
  refine ⟨by have := h.1; omega, ?_⟩
  rw [h.2, idxW_step (by simpa using hq), if_neg]
  · rw [show (i + 3) / 3 = i / 3 + 1 from by omega]; rfl
  · have e := C.at_ (i / 3) hq
    rw [show 3 * (i / 3) = i from by have := h.1; omega] at e
    have := of_decide_eq_false hx
    rw [e] at this
    simpa [List.getD_eq_getElem?_getD, hq] using this
theorem At47.end_ {D : ByteArray} {tbl : List (List UInt8)} {fx : List Int} {i : Nat} (C : CapTbl D tbl) (h : At47 tbl fx i) (hi : ¬ i + 3 ≤ D.size) : idxW (tbl.map natL) fx 0 = -1 := by
  have hs := C.size
  rw [h.2, List.drop_eq_nil_of_le (by rw [List.length_map]; have := h.1; omega)]
  rfl
theorem At47.zero (tbl : List (List UInt8)) (fx : List Int) : At47 tbl fx 0 := ⟨rfl, rfl⟩
set_option maxRecDepth 100000 in
set_option maxHeartbeats 1000000 in
theorem r47_name_no {A : Option Addr} {n c : Nat} {xs : List Int} {w : World} {D : ByteArray} {tbl : List (List UInt8)} (hs : Sl w .u8 A n c xs) (C : CapTbl D tbl) (h3 : ¬ n = 3) :
    Calls Try.prog 35 #[.slice A n c, .string D] w (RetB (.int .i64 (nameV tbl xs)) w) := by
  have HV := Lib.hid (show nameV tbl xs = -1 by unfold nameV; rw [if_neg (by rw [hs.len]; exact h3)])
  have hsz : D.size ≤ 36 := by have := C.size; have := C.few; omega
  have hb3 : ((n : Int) == 3) = false := by simp; omega
  have hle := hs.le
  clear h3
  go_enter Try.func35, Try.ntmps35
  go_wp2_with fail
  go_loopw [5] (fun v5 wr => ∃ i : Nat, i ≤ D.size ∧ v5 = .int .i64 i ∧ Below w.heap.size w wr) (fun v5 _ => D.size - (intOf v5).toNat)
  case atStart => exact ⟨0, Nat.zero_le _, rfl, Below.refl _ _⟩
  case round =>
    obtain ⟨i, hi, rfl, hbel⟩ := hrel
    by_cases hlt : i + 3 ≤ D.size
    · have hl2 : (i : Int) + 3 ≤ (D.size : Int) := by omega
      go_wp2_with fail
      (refine wp_region_any (by kernel_rfl) ?_; (try (change wpAny _ _ _ _ _ _ _ (World.drew _))); refine wpAny_lex 0 _ rfl (by kernel_rfl) (by kernel_rfl) ?_; (try simp only []); (repeat (go_big_quiet_step (fail))); refine wpQuiet_nil ?_; rintro _ ⟨X, rfl⟩)
      have hb2 : Below w.heap.size w X.W := hbel.trans (((Below.refl _ _).drew.trans X.h).mono hbel.size)
      go_wp2_with fail
      (first | (go_roundw; (case rel => exact ⟨i + 3, by omega, by go_num, hb2⟩); (case measure => first | (simp [intOf] <;> omega) | (simp [lenOf] <;> omega))) | (refine ⟨?_, ?measure⟩; (repeat apply Exists.intro); refine ⟨?rel, ?eqs⟩; (case eqs => first | rfl | ((repeat (refine ⟨rfl, ?_⟩)); rfl)); (case rel => exact ⟨i + 3, by omega, by go_num, hb2⟩); (case measure => first | (simp [intOf] <;> omega) | (simp [lenOf] <;> omega))) | ((repeat apply Exists.intro); refine ⟨?rel, ?eqs⟩; (case eqs => first | rfl | ((repeat (refine ⟨rfl, ?_⟩)); rfl)); (case rel => exact ⟨i + 3, by omega, by go_num, hb2⟩)))
    · have hl2 : ¬ (i : Int) + 3 ≤ (D.size : Int) := by omega
      go_wp2_with fail
      go_ret
      exact ⟨ret_int HV.out.symm, hbel⟩
set_option maxRecDepth 100000 in
set_option maxHeartbeats 1000000 in
theorem r47_name_yes {A : Option Addr} {n c : Nat} {xs : List Int} {w : World} {D : ByteArray} {tbl : List (List UInt8)} (hs : Sl w .u8 A n c xs) (C : CapTbl D tbl) (h3 : n = 3) :
    Calls Try.prog 35 #[.slice A n c, .string D] w (RetB (.int .i64 (nameV tbl xs)) w) := by
  have HV := Lib.hid (show nameV tbl xs = idxW (tbl.map natL) (fldL xs) 0 by unfold nameV; rw [if_pos (by rw [hs.len]; exact h3)]; rfl)
  have hsz : D.size ≤ 36 := by have := C.size; have := C.few; omega
  subst h3
  have hle := hs.le
  have kcv0 := fun (s : ByteArray) (W : World) => Lib.run_convert_string_bytes (P := Try.prog) W 9 30 5 s Try.underlying9 Try.underlying30 Try.underlying5
  go_enter Try.func35, Try.ntmps35
  go_wp2_with fail
  go_loopw [5] (fun v5 wr => ∃ i : Nat, i ≤ D.size ∧ v5 = .int .i64 i ∧ Below w.heap.size w wr ∧ Hid (At47 tbl (fldL xs) i)) (fun v5 _ => D.size - (intOf v5).toNat)
  case atStart => exact ⟨0, Nat.zero_le _, rfl, Below.refl _ _, At47.zero _ _⟩
  case round =>
    obtain ⟨i, hi, rfl, hbel, hat⟩ := hrel
    by_cases hlt : i + 3 ≤ D.size
    · have hl2 : (i : Int) + 3 ≤ (D.size : Int) := by omega
      have hF1 := fun W (hW : Below wr.heap.size wr W) => r01_Fold ((hs.below hbel (Nat.le_refl _)).bel hW) (show (3 : Nat) ≤ 1073741824 by omega)
      obtain ⟨s3, hs3⟩ : ∃ s3, D.extract i (i + 3) = s3 := ⟨_, rfl⟩
      have hs3s : s3.size = 3 := by rw [← hs3, ByteArray.size_extract]; omega
      have hY := Lib.hid (fun h => hat.out.hit C hlt h)
      have hN := Lib.hid (fun h => hat.out.miss C hlt h)
      rw [hs3] at hY hN
      have hS := fun W => Sl.ofBytes W 5 s3 (by omega)
      have hsz3 : s3.size ≤ 1073741824 := by omega
      have hi0 : (0 : Int) ≤ (i : Int) := by omega
      have hi1 : (i : Int) ≤ (i : Int) + 3 := by omega
      have hi2 : ((i : Int) + 3).toNat = i + 3 := by omega
      clear hat hs3s
      go_wp2_with fail
      have hwr : IntKind.i64.wrap ((i : Int) + 3) = (i : Int) + 3 := IntWalk.i64_in _ (by omega)
      have hBa := (Below.refl wr.heap.size wr).drew
      have hBb := hBa.trans ((Lib.bytesWorld_below wr.drew 5 s3).mono hBa.size)
      have hF1a := hF1 _ hBa
      have hF1b := hF1 _ hBb
      clear hF1
      have hS0 : Sl (Lib.bytesWorld wr.drew 5 s3) .u8 (some ⟨wr.heap.size, 0, none⟩) s3.size (grownCap wr.drew s3.size 0 5) (strL s3) := hS wr.drew
      refine wp_region_any (by kernel_rfl) ?_
      (try (change wpAny _ _ _ _ _ _ _ (World.drew _)))
      (refine wpAny_take (i := 0) (v := ?_) rfl (by kernel_rfl) (by kernel_rfl) (by kernel_rfl) (fun _ _ _ h => h) (Or.inl ⟨by rfl, ?_⟩) ?_; rotate_left; (· (intro W; go_simp; (try with_reducible rfl))); (try go_simp))
      (refine wpAny_take (i := 1) (v := ?_) rfl (by kernel_rfl) (by kernel_rfl) (by kernel_rfl) (fun _ _ _ h => h) (Or.inl ⟨by rfl, ?_⟩) ?_; rotate_left; (· (intro W; go_simp; (try with_reducible rfl))); (try go_simp))
      (refine wpAny_take (i := 2) (v := ?_) rfl (by kernel_rfl) (by kernel_rfl) (by kernel_rfl) (fun _ _ _ h => h) (Or.inl ⟨by rfl, ?_⟩) ?_; rotate_left; (· (intro W; go_simp; (try with_reducible rfl))); (try go_simp))
      (refine wpAny_take (i := 3) (v := ?_) rfl (by kernel_rfl) (by kernel_rfl) (by kernel_rfl) (fun _ _ _ h => h) (Or.inl ⟨by rfl, ?_⟩) ?_; rotate_left; (· (intro W; go_simp; (try with_reducible rfl))); (try go_simp))
      (refine wpAny_take (i := 4) (v := ?_) rfl (by kernel_rfl) (by kernel_rfl) (by kernel_rfl) (fun _ _ _ h => h) (Or.inl ⟨by rfl, ?_⟩) ?_; rotate_left; (· (intro W; go_simp; (try with_reducible rfl))); (try go_simp))
      (refine wpAny_take (i := 6) (v := ?_) rfl (by kernel_rfl) (by kernel_rfl) (by kernel_rfl) (fun _ _ _ h => h) (Or.inl ⟨by rfl, ?_⟩) ?_; rotate_left; (· (intro W; go_simp; (try with_reducible rfl))); (try go_simp))
      (refine wpAny_take (i := 7) (v := ?_) rfl (by kernel_rfl) (by kernel_rfl) (by kernel_rfl) (fun _ _ _ h => h) (Or.inl ⟨by rfl, ?_⟩) ?_; rotate_left; (· (intro W; go_simp; (try with_reducible rfl))); (try go_simp))
      (refine wpAny_take (i := 8) (v := ?_) rfl (by kernel_rfl) (by kernel_rfl) (by kernel_rfl) (fun _ _ _ h => h) (Or.inl ⟨by rfl, ?_⟩) ?_; rotate_left; (· (intro W; go_simp; (try with_reducible rfl))); (try go_simp))
      (refine wpAny_take (i := 9) (v := ?_) rfl (by kernel_rfl) (by kernel_rfl) (by kernel_rfl) (fun _ _ _ h => h) (Or.inl ⟨by rfl, ?_⟩) ?_; rotate_left; (· (intro W; go_simp; (try with_reducible rfl))); (try go_simp))
      (refine wpAny_take (i := 10) (v := ?_) rfl (by kernel_rfl) (by kernel_rfl) (by kernel_rfl) (fun _ _ _ h => h) (Or.inl ⟨by rfl, ?_⟩) ?_; rotate_left; (· (intro W; go_simp; (try with_reducible rfl))); (try go_simp))
      (refine wpAny_ready (rs := [5, 11]) (by kernel_rfl) (by simp) ?_; refine AllReady.cons rfl (fun K hK => ?_) (AllReady.cons rfl (fun K hK => ?_) AllReady.nil))
      · go_simp
        refine hF1a.mono ?_
        rintro e w1 ⟨v1, rfl, ho1, hb1⟩
        obtain ⟨A1, n1, c1, rfl, hs1⟩ := ho1.sl
        have hB1 := hBa.trans (hb1.mono hBa.size)
        (try go_simp)
        refine hK _ _ ?_
        clear hK K
        (refine wpAny_ready (rs := [11]) (by kernel_rfl) (by simp) ?_; refine AllReady.cons rfl (fun K hK => ?_) AllReady.nil)
        go_simp
        refine hK _ _ ?_
        clear hK K
        (refine wpAny_ready (rs := [12]) (by kernel_rfl) (by simp) ?_; refine AllReady.cons rfl (fun K hK => ?_) AllReady.nil)
        go_simp
        refine (r01_Fold (hS w1) hsz3).mono ?_
        rintro e w2 ⟨v2, rfl, ho2, hb2⟩
        obtain ⟨A2, n2, c2, rfl, hs2⟩ := ho2.sl
        (try go_simp)
        refine hK _ _ ?_
        clear hK K
        (refine wpAny_ready (rs := [13]) (by kernel_rfl) (by simp) ?_; refine AllReady.cons rfl (fun K hK => ?_) AllReady.nil)
        go_simp
        refine (r01_Like ((hs1.bel (Lib.bytesWorld_below _ _ _)).bel hb2) hs2).mono ?_
        rintro e w3 ⟨rfl, hb3⟩
        have hB := hB1.trans (((((Lib.bytesWorld_below w1 5 s3).trans (hb2.mono (Lib.bytesWorld_below w1 5 s3).size))).trans (hb3.mono ((Lib.bytesWorld_below w1 5 s3).trans (hb2.mono (Lib.bytesWorld_below w1 5 s3).size)).size)).mono hB1.size)
        (try go_simp)
        refine hK _ _ ?_
        clear hK K
        (refine wpAny_take (i := 14) (v := ?_) rfl (by kernel_rfl) (by kernel_rfl) (by kernel_rfl) (fun _ _ _ h => h) (Or.inl ⟨by rfl, ?_⟩) ?_; rotate_left; (· (intro W; go_simp; (try with_reducible rfl))); (try go_simp))
        refine wpAny_done (by kernel_rfl) ?_ _
        obtain ⟨lk, hlk⟩ : ∃ lk, likeL (fldL xs) (fldL (strL s3)) = lk := ⟨_, rfl⟩
        have hBw := hbel.trans (hB.mono hbel.size)
        rw [hlk] at hY hN
        (try rw [hlk])
        clear hlk hwr hF1a hF1b hBa hBb hS hS0 hb1 hs1 hB1 hb2 hs2 hb3 hB kcv0 ho1 ho2
        cases lk with
        | true =>
          have HY := Lib.hid (hY.out rfl)
          go_wp2_with fail
          go_ret
          exact ⟨ret_int (by rw [HV.out, HY.out]; omega), hBw⟩
        | false =>
          have HN := Lib.hid (hN.out rfl)
          go_wp2_with fail
          (first | (go_roundw; (case rel => exact ⟨i + 3, by omega, by go_num, hBw, HN⟩); (case measure => first | (simp [intOf] <;> omega) | (simp [lenOf] <;> omega))) | (refine ⟨?_, ?measure⟩; (repeat apply Exists.intro); refine ⟨?rel, ?eqs⟩; (case eqs => first | rfl | ((repeat (refine ⟨rfl, ?_⟩)); rfl)); (case rel => exact ⟨i + 3, by omega, by go_num, hBw, HN⟩); (case measure => first | (simp [intOf] <;> omega) | (simp [lenOf] <;> omega))) | ((repeat apply Exists.intro); refine ⟨?rel, ?eqs⟩; (case eqs => first | rfl | ((repeat (refine ⟨rfl, ?_⟩)); rfl)); (case rel => exact ⟨i + 3, by omega, by go_num, hBw, HN⟩)))
      · go_simp
        refine hK _ _ ?_
        clear hK K
        (refine wpAny_ready (rs := [5]) (by kernel_rfl) (by simp) ?_; refine AllReady.cons rfl (fun K hK => ?_) AllReady.nil)
        go_simp
        refine hF1b.mono ?_
        rintro e w1 ⟨v1, rfl, ho1, hb1⟩
        obtain ⟨A1, n1, c1, rfl, hs1⟩ := ho1.sl
        have hB1 := hBb.trans (hb1.mono hBb.size)
        (try go_simp)
        refine hK _ _ ?_
        clear hK K
        (refine wpAny_ready (rs := [12]) (by kernel_rfl) (by simp) ?_; refine AllReady.cons rfl (fun K hK => ?_) AllReady.nil)
        go_simp
        refine (r01_Fold (hS0.bel hb1) hsz3).mono ?_
        rintro e w2 ⟨v2, rfl, ho2, hb2⟩
        obtain ⟨A2, n2, c2, rfl, hs2⟩ := ho2.sl
        (try go_simp)
        refine hK _ _ ?_
        clear hK K
        (refine wpAny_ready (rs := [13]) (by kernel_rfl) (by simp) ?_; refine AllReady.cons rfl (fun K hK => ?_) AllReady.nil)
        go_simp
        refine (r01_Like (hs1.bel hb2) hs2).mono ?_
        rintro e w3 ⟨rfl, hb3⟩
        have hB := (hB1.trans (hb2.mono hB1.size)).trans (hb3.mono (hB1.trans (hb2.mono hB1.size)).size)
        (try go_simp)
        refine hK _ _ ?_
        clear hK K
        (refine wpAny_take (i := 14) (v := ?_) rfl (by kernel_rfl) (by kernel_rfl) (by kernel_rfl) (fun _ _ _ h => h) (Or.inl ⟨by rfl, ?_⟩) ?_; rotate_left; (· (intro W; go_simp; (try with_reducible rfl))); (try go_simp))
        refine wpAny_done (by kernel_rfl) ?_ _
        obtain ⟨lk, hlk⟩ : ∃ lk, likeL (fldL xs) (fldL (strL s3)) = lk := ⟨_, rfl⟩
        have hBw := hbel.trans (hB.mono hbel.size)
        rw [hlk] at hY hN
        (try rw [hlk])
        clear hlk hwr hF1a hF1b hBa hBb hS hS0 hb1 hs1 hB1 hb2 hs2 hb3 hB kcv0 ho1 ho2
        cases lk with
        | true =>
          have HY := Lib.hid (hY.out rfl)
          go_wp2_with fail
          go_ret
          exact ⟨ret_int (by rw [HV.out, HY.out]; omega), hBw⟩
        | false =>
          have HN := Lib.hid (hN.out rfl)
          go_wp2_with fail
          (first | (go_roundw; (case rel => exact ⟨i + 3, by omega, by go_num, hBw, HN⟩); (case measure => first | (simp [intOf] <;> omega) | (simp [lenOf] <;> omega))) | (refine ⟨?_, ?measure⟩; (repeat apply Exists.intro); refine ⟨?rel, ?eqs⟩; (case eqs => first | rfl | ((repeat (refine ⟨rfl, ?_⟩)); rfl)); (case rel => exact ⟨i + 3, by omega, by go_num, hBw, HN⟩); (case measure => first | (simp [intOf] <;> omega) | (simp [lenOf] <;> omega))) | ((repeat apply Exists.intro); refine ⟨?rel, ?eqs⟩; (case eqs => first | rfl | ((repeat (refine ⟨rfl, ?_⟩)); rfl)); (case rel => exact ⟨i + 3, by omega, by go_num, hBw, HN⟩)))
    · have hl2 : ¬ (i : Int) + 3 ≤ (D.size : Int) := by omega
      have HE := Lib.hid (hat.out.end_ C hlt)
      go_wp2_with fail
      go_ret
      exact ⟨ret_int (by rw [HV.out, HE.out]), hbel⟩
theorem r47_name {A : Option Addr} {n c : Nat} {xs : List Int} {w : World} {D : ByteArray} {tbl : List (List UInt8)} (hs : Sl w .u8 A n c xs) (_ : n ≤ 4194304) (C : CapTbl D tbl) :
    Calls Try.prog 35 #[.slice A n c, .string D] w (RetB (.int .i64 (nameV tbl xs)) w) := by
  by_cases h3 : n = 3
  · exact r47_name_yes hs C h3
  · exact r47_name_no hs C h3
end Go.Proofs.Ytjiofcnlibkhkaa
