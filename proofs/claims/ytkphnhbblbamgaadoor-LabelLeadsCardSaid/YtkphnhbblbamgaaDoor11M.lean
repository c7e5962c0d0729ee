/- Layer 11's second law: it returns true for every input, and leaves what was there. Condition: the argument reads as a list. -/
import Derived.Test.YtkphnhbblbamgaaDoor11L
import Derived.Test.YtkphnhbblbamgaaDoor11T
namespace Go.Proofs.YtkphnhbblbamgaaDoor
open Go.RowKit Go.Maps Go.WideMaps

theorem Ss.setCell {w : World} {b n : Nat} {l : List (List Int)} (h : Ss w (some ⟨b, 0, none⟩) n l) {p : Addr} (hne : p.block ≠ b) (u : Value) : Ss (w.setCell p u) (some ⟨b, 0, none⟩) n l :=
  ⟨h.len, fun j hj => by
    obtain ⟨b', e, hb, hc⟩ := h.at_ j hj
    injection e with e; injection e with e1 _ _
    subst e1
    exact ⟨b, rfl, by rw [World.size_setCell]; exact hb, by rw [World.cell?_setCell_other w _ _ _ (fun e => hne (by rw [e]))]; exact hc⟩⟩
set_option maxRecDepth 100000 in
set_option maxHeartbeats 4000000 in
theorem law_LabelLeads {A n c xs} {k up : Int} {w : World} (hup : (Lit.int .u64 up).wf = true) (hs : Sl w .u8 A n c xs) : Calls Tryd.prog 8 #[.int .i64 k, .int .u64 up, .slice A n c] w (RetB (.bool true) w) := by
  by_cases hbig : 100 < n
  · go_enter Tryd.func8, Tryd.ntmps8
    go_wp2_with (go_at_call 25; refine alive11.mono ?_; rintro e w1 ⟨rfl, hb⟩)
    go_ret
    exact ⟨rfl, hb⟩
  · have kc := fun (w : World) (C : Array Value) (n c : Nat) => Lib.run_convert_bytes_const (P := Tryd.prog) w 26 5 C n c Tryd.underlying26 Tryd.underlying5
    have ks := fun (w : World) (s : ByteArray) => Lib.run_convert_string_bytes (P := Tryd.prog) w 9 26 5 s Tryd.underlying9 Tryd.underlying26 Tryd.underlying5
    go_enter Tryd.func8, Tryd.ntmps8
    go_wp2_with fail
    refine (p11_Names (k := k)).mono ?_
    rintro e w1 ⟨A1, c1, rfl, hss1, hb1⟩
    have hl4 := nmL_len k
    have HX := Lib.hid (show ∀ x ∈ nmL k, (∀ a ∈ x, (Lit.int .u8 a).wf = true) ∧ x.length ≤ 20 ∧ (∀ c ∈ x, okC c = true) ∧ x ≠ [] ∧ csNum x = k ∧ csE x = 0 from fun x hx => ⟨nmL_wf k x hx, nmL_size k x hx, nm_ok k x hx, nm_ne k x hx, lead_num hx⟩)
    obtain ⟨l, hlq⟩ : ∃ l, nmL k = l := ⟨_, rfl⟩
    rw [hlq] at hss1 hl4 HX ⊢
    clear hlq
    go_wp2
    go_loopw [24] (fun i wr => ∃ j : Nat, j ≤ l.length ∧ i = .int .i64 j ∧ Below w.heap.size w wr ∧ Ss wr A1 l.length l) (fun i _ => l.length - (intOf i).toNat)
    case atStart => exact ⟨0, by omega, rfl, hb1, hss1⟩
    case round =>
      obtain ⟨j, hj, rfl, hB, hss⟩ := hrel
      clear hss1 hb1
      by_cases hlt : j < l.length
      · obtain ⟨b, rfl, hb, hcell⟩ := hss.at_ j hlt
        have hmem : l.getD j [] ∈ l := by simp [List.getD_eq_getElem?_getD, hlt]
        obtain ⟨hwf, hsz, hok, hne, hcs, hce⟩ := HX.out _ hmem
        obtain ⟨x, hx⟩ : ∃ x, l.getD j [] = x := ⟨_, rfl⟩
        rw [hx] at hcell hwf hsz hok hne hcs hce
        clear hx hmem
        obtain ⟨s, hsq⟩ : ∃ s, strOfNums x = s := ⟨_, rfl⟩
        rw [hsq] at hcell
        obtain ⟨ht1, ht2, ht3, ht4, ht5⟩ := Sl.ofStr wr 5 hsq hwf hsz
        have ks1 := ks wr s
        rw [ht2] at ks1
        clear ks
        obtain ⟨W2, hW2⟩ : ∃ W2, Lib.bytesWorld wr 5 s = W2 := ⟨_, rfl⟩
        rw [hW2] at ks1 ht1 ht3 ht4 ht5
        obtain ⟨cp, hcp⟩ : ∃ cp, grownCap wr x.length 0 5 = cp := ⟨_, rfl⟩
        rw [hcp] at ks1 ht1
        obtain ⟨B2, hB2⟩ : ∃ B2, wr.heap.size = B2 := ⟨_, rfl⟩
        have hB3 := below_then hB ht3
        have hss2 := hss.bel ht3
        have hwB : w.heap.size ≤ B2 := by rw [← hB2]; exact hB.size
        rw [hB2] at ks1 ht1 ht4 ht5
        clear hsq hW2 hcp hss hB ht3 ht2
        have HOK := Lib.hid hok
        clear hok
        go_wp2
        go_loopw [32] (fun i wi => ∃ (q : Nat) (ys : List Int), q ≤ x.length ∧ i = .int .i64 q ∧ Sl wi .u8 (some ⟨B2, 0, none⟩) x.length cp ys ∧ Hid ((∀ j, j < x.length → UpC (x.getD j 0) (ys.getD j 0)) ∧ ∀ j, q ≤ j → ys.getD j 0 = x.getD j 0) ∧ Hid (∀ j, j < x.length → wi.frozen? ⟨B2, j, none⟩ = false) ∧ Below w.heap.size w wi ∧ Ss wi (some ⟨b, 0, none⟩) l.length l ∧ B2 < wi.heap.size) (fun i _ => x.length - (intOf i).toNat)
        case atStart => exact ⟨0, x, by omega, rfl, ht1, ⟨fun j _ => .inl rfl, fun _ _ => rfl⟩, ht4, hB3, hss2, by omega⟩
        case round =>
          obtain ⟨q, ys, hq, rfl, hy, hu, hfz, hBi, hssi, hlti⟩ := hrel
          clear ht1 ht4 hB3 hss2
          by_cases hqlt : q < x.length
          · have hc0 := hy.cell hqlt
            rw [Nat.zero_add, hu.out.2 q (Nat.le_refl _)] at hc0
            have hf := hfz.out q hqlt
            have hxa : okC (x.getD q 0) = true := HOK.out _ (by simp [List.getD_eq_getElem?_getD, hqlt])
            have hwa : (Lit.int .u8 (x.getD q 0)).wf = true := hwf _ (by simp [List.getD_eq_getElem?_getD, hqlt])
            obtain ⟨a, ha⟩ : ∃ a, x.getD q 0 = a := ⟨_, rfl⟩
            rw [ha] at hc0 hxa hwa
            have hw8 := wf_u8.1 hwa
            have hstay : Hid ((∀ j, j < x.length → UpC (x.getD j 0) (ys.getD j 0)) ∧ ∀ j, q + 1 ≤ j → ys.getD j 0 = x.getD j 0) := ⟨hu.out.1, fun j hj => hu.out.2 j (by omega)⟩
            have hyl := hy.len
            have hset : Hid (97 ≤ a ∧ a ≤ 122 → (∀ j, j < x.length → UpC (x.getD j 0) ((ys.set q (a - 32)).getD j 0)) ∧ ∀ j, q + 1 ≤ j → (ys.set q (a - 32)).getD j 0 = x.getD j 0) := by
              show _ → _
              intro hr
              refine ⟨fun j hj => ?_, fun j hj => ?_⟩
              · by_cases e : j = q
                · subst e
                  rw [ha]
                  refine .inr ⟨hr.1, hr.2, ?_⟩
                  simp [List.getD_eq_getElem?_getD, hyl, hqlt]
                · have := hu.out.1 j hj
                  simpa [List.getD_eq_getElem?_getD, List.getElem?_set, Ne.symm e] using this
              · have := hu.out.2 j (by omega)
                have e : q ≠ j := by omega
                simpa [List.getD_eq_getElem?_getD, List.getElem?_set, e] using this
            clear ha hu
            by_cases hlet : 97 ≤ a ∧ a ≤ 122
            · obtain ⟨hl1, hl2⟩ := hlet
              have hset2 := hset.out ⟨hl1, hl2⟩
              have hys := hy.set hqlt (show (Lit.int .u8 (a - 32)).wf = true from wf_u8.2 (by omega))
              have hfz2 : Hid (∀ j, j < x.length → (wr.setCell ⟨B2, q, none⟩ (.int .u8 (a - 32))).frozen? ⟨B2, j, none⟩ = false) := by
                show ∀ _, _
                intro j hj
                rw [World.frozen?_setCell]; exact hfz.out j hj
              have hBi2 := hBi.setCell (p := ⟨B2, q, none⟩) hwB (.int .u8 (a - 32))
              have hss3 := hssi.setCell (p := ⟨B2, q, none⟩) (show B2 ≠ b by omega) (.int .u8 (a - 32))
              have hlt2 : B2 < (wr.setCell ⟨B2, q, none⟩ (.int .u8 (a - 32))).heap.size := by rw [World.size_setCell]; exact hlti
              clear hset
              go_wp2
              all_goals first
                | (first | (go_roundw; (case rel => exact ⟨q + 1, ys.set q (a - 32), by omega, by go_num, hys, hset2, hfz2, hBi2, hss3, hlt2⟩); (case measure => first | (simp [intOf] <;> omega) | (simp [lenOf] <;> omega))) | (refine ⟨?_, ?measure⟩; (repeat apply Exists.intro); refine ⟨?rel, ?eqs⟩; (case eqs => first | rfl | ((repeat (refine ⟨rfl, ?_⟩)); rfl)); (case rel => exact ⟨q + 1, ys.set q (a - 32), by omega, by go_num, hys, hset2, hfz2, hBi2, hss3, hlt2⟩); (case measure => first | (simp [intOf] <;> omega) | (simp [lenOf] <;> omega))) | ((repeat apply Exists.intro); refine ⟨?rel, ?eqs⟩; (case eqs => first | rfl | ((repeat (refine ⟨rfl, ?_⟩)); rfl)); (case rel => exact ⟨q + 1, ys.set q (a - 32), by omega, by go_num, hys, hset2, hfz2, hBi2, hss3, hlt2⟩)))
                | (first | (go_roundw; (case rel => exact ⟨q + 1, ys, by omega, by go_num, hy, hstay, hfz, hBi, hssi, hlti⟩); (case measure => first | (simp [intOf] <;> omega) | (simp [lenOf] <;> omega))) | (refine ⟨?_, ?measure⟩; (repeat apply Exists.intro); refine ⟨?rel, ?eqs⟩; (case eqs => first | rfl | ((repeat (refine ⟨rfl, ?_⟩)); rfl)); (case rel => exact ⟨q + 1, ys, by omega, by go_num, hy, hstay, hfz, hBi, hssi, hlti⟩); (case measure => first | (simp [intOf] <;> omega) | (simp [lenOf] <;> omega))) | ((repeat apply Exists.intro); refine ⟨?rel, ?eqs⟩; (case eqs => first | rfl | ((repeat (refine ⟨rfl, ?_⟩)); rfl)); (case rel => exact ⟨q + 1, ys, by omega, by go_num, hy, hstay, hfz, hBi, hssi, hlti⟩)))
            · clear hset
              go_wp2
              all_goals (first | (go_roundw; (case rel => exact ⟨q + 1, ys, by omega, by go_num, hy, hstay, hfz, hBi, hssi, hlti⟩); (case measure => first | (simp [intOf] <;> omega) | (simp [lenOf] <;> omega))) | (refine ⟨?_, ?measure⟩; (repeat apply Exists.intro); refine ⟨?rel, ?eqs⟩; (case eqs => first | rfl | ((repeat (refine ⟨rfl, ?_⟩)); rfl)); (case rel => exact ⟨q + 1, ys, by omega, by go_num, hy, hstay, hfz, hBi, hssi, hlti⟩); (case measure => first | (simp [intOf] <;> omega) | (simp [lenOf] <;> omega))) | ((repeat apply Exists.intro); refine ⟨?rel, ?eqs⟩; (case eqs => first | rfl | ((repeat (refine ⟨rfl, ?_⟩)); rfl)); (case rel => exact ⟨q + 1, ys, by omega, by go_num, hy, hstay, hfz, hBi, hssi, hlti⟩)))
          · obtain rfl : q = x.length := by omega
            have h1 : Sl (wr.alloc (.cells #[.int .u8 32, .int .u8 9] 5 (2, 3))) .u8 (some ⟨wr.heap.size, 0, none⟩) 2 2 [32, 9] := Sl.newF wr .u8 5 [32, 9] (2, 3) (by decide) (by decide)
            have h2 := hy.alloc (.cells #[.int .u8 32, .int .u8 9] 5 (2, 3))
            have hBa := (Below.refl wr.heap.size wr).alloc (Nat.le_refl _) (.cells #[.int .u8 32, .int .u8 9] 5 (2, 3))
            have hx0 : 0 < x.length := by cases x with | nil => exact absurd rfl hne | cons _ _ => simp
            have hyl := hy.len
            have hkey := lead_key (bs := xs) hne hyl HOK.out hu.out.1
            clear hu hy hfz
            have hsw := hs.bel hBi
            go_wp2_with (first
              | (at_builtin; refine wpList_appF rfl rfl eltB (by decide) rfl rfl h1 h2 hx0 (by omega) ?_; intro v3 w3 ho3 hb3; have hB3 := below_then hBa hb3; have hz3 := hb3.size; rw [World.size_alloc] at hz3 ho3; have hBb := hB3.alloc hB3.size (.cells #[.int .u8 32, .int .u8 42] 5); have h42 : Sl (w3.alloc (.cells #[.int .u8 32, .int .u8 42] 5)) .u8 (some ⟨w3.heap.size, 0, none⟩) 2 2 [32, 42] := Sl.new w3 .u8 5 [32, 42] (by decide) (by decide); have hos := ho3.alloc (.cells #[.int .u8 32, .int .u8 42] 5))
              | (at_builtin; refine wpList_app rfl rfl eltB (by decide) rfl rfl hos h42 hBb (by refine ⟨?_, ?_⟩ <;> first | omega | (simp; done) | (simp; omega)) (by first | omega | (simp; done) | (simp; omega)) ?_; intro v4 w4 ho4 hB4 hg4; have hz4 := hg4.size; rw [World.size_alloc] at hz4)
              | (at_builtin; refine wpList_app rfl rfl eltB (by decide) rfl rfl ho4 (hsw.bel hB4) hB4 (by refine ⟨?_, ?_⟩ <;> first | omega | (simp; done) | (simp; omega)) (by first | omega | (simp; done) | (simp; omega)) ?_; intro v5 w5 ho5 hB5 hg5)
              | (go_at_call 26; obtain ⟨A5, n5, c5, rfl, hs5⟩ := ho5.sl; refine (p11_Charset hs5 (by have := hs5.len; have hsl := hs.len; simp at this; omega)).mono ?_; rw [hkey, hcs, hce]; rintro e w6 ⟨rfl, hb6⟩; have hB6 := below_then hB5 hb6))
            (first | (go_roundw; (case rel => exact ⟨j + 1, by omega, by go_num, below_then hBi hB6, hssi.bel hB6⟩); (case measure => first | (simp [intOf] <;> omega) | (simp [lenOf] <;> omega))) | (refine ⟨?_, ?measure⟩; (repeat apply Exists.intro); refine ⟨?rel, ?eqs⟩; (case eqs => first | rfl | ((repeat (refine ⟨rfl, ?_⟩)); rfl)); (case rel => exact ⟨j + 1, by omega, by go_num, below_then hBi hB6, hssi.bel hB6⟩); (case measure => first | (simp [intOf] <;> omega) | (simp [lenOf] <;> omega))) | ((repeat apply Exists.intro); refine ⟨?rel, ?eqs⟩; (case eqs => first | rfl | ((repeat (refine ⟨rfl, ?_⟩)); rfl)); (case rel => exact ⟨j + 1, by omega, by go_num, below_then hBi hB6, hssi.bel hB6⟩)))
      · obtain rfl : j = l.length := by omega
        clear HX hss hl4
        obtain ⟨s, hsq⟩ : ∃ s, strOfNums (cdL k) = s := ⟨_, rfl⟩
        have hcn := p11_CodingName (w := wr) hsq
        obtain ⟨ht1, ht2, ht3, ht4, ht5⟩ := Sl.ofStr wr 5 hsq (cdL_wf k) (cdL_size k)
        have ks1 := ks wr s
        rw [ht2] at ks1
        clear ks kc
        obtain ⟨W2, hW2⟩ : ∃ W2, Lib.bytesWorld wr 5 s = W2 := ⟨_, rfl⟩
        rw [hW2] at ks1 ht1 ht3 ht4 ht5
        have hB3 := below_then hB ht3
        have hsz := cdL_size k
        have hcod := p11_Coding ht1 (by omega)
        have hic := fun w => p11_IsCoding (k := k) (w := w)
        clear hsq hW2 ht3 ht4 hB ht1
        rcases code_num k with ⟨h1, h2, h3, h4⟩ | ⟨h1, h3, h4⟩
        · rw [h3, h4] at hcod
          rw [show decide (1 ≤ k ∧ k ≤ 3) = true from decide_eq_true ⟨h1, h2⟩] at hic
          clear h3 h4
          go_wp2_with (first | (go_at_call 33; refine hcn.mono ?_; rintro e w' ⟨rfl, rfl⟩) | (go_at_call 28; refine hcod.mono ?_; rintro e w4 ⟨rfl, hb4⟩) | (go_at_call 34; refine (hic _).mono ?_; rintro e w' ⟨rfl, rfl⟩) | (go_at_call 25; refine alive11.mono ?_; rintro e w5 ⟨rfl, hb5⟩))
          go_ret
          exact ⟨rfl, below_then (below_then hB3 hb4) hb5⟩
        · rw [h3, h4] at hcod
          rw [show decide (1 ≤ k ∧ k ≤ 3) = false from decide_eq_false h1] at hic
          clear h3 h4 h1
          go_wp2_with (first | (go_at_call 33; refine hcn.mono ?_; rintro e w' ⟨rfl, rfl⟩) | (go_at_call 28; refine hcod.mono ?_; rintro e w4 ⟨rfl, hb4⟩) | (go_at_call 34; refine (hic _).mono ?_; rintro e w' ⟨rfl, rfl⟩) | (go_at_call 25; refine alive11.mono ?_; rintro e w5 ⟨rfl, hb5⟩))
          go_ret
          exact ⟨rfl, below_then (below_then hB3 hb4) hb5⟩
end Go.Proofs.YtkphnhbblbamgaaDoor
