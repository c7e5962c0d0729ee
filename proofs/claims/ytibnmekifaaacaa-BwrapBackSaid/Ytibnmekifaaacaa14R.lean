/- Layer 14's program (bcode): Lay. Conditions: the argument reads as a list of at most 3000 octets. -/
import Derived.Test.Ytibnmekifaaacaa14Q
import Derived.Test.YtibnmekifaaacaaRep
namespace Go.Proofs.Ytibnmekifaaacaa
open Go.RowKit

set_option maxRecDepth 100000 in
set_option maxHeartbeats 1000000 in
theorem lib_Repeat0 {A : Option Addr} {c : Nat} {w : World} :
    Calls Try.prog 32 #[.slice A 1 c, .int .i64 0] w (fun e w' => e = .returned (.slice (some ⟨w.heap.size, 0, none⟩) 0 0) ∧ Below w.heap.size w w') := by
  go_enter Try.func32, Try.ntmps32
  go_wp2
  go_ret
  exact ⟨rfl, (Below.refl _ _).alloc (Nat.le_refl _) _⟩
theorem layL_length (xs : List Int) (h : 0 < xs.length) : (layL xs).length = (xs.length - 1) / 3 * 4 + 4 := by
  unfold layL padEq
  rw [List.length_append, List.length_replicate, bare3_length]
  split <;> omega
theorem layL_split (xs : List Int) (h : 0 < xs.length) : layL xs = bare3 xs ++ List.replicate ((xs.length - 1) / 3 * 4 + 4 - (bare3 xs).length) 61 := by
  have h1 := layL_length xs h
  unfold layL padEq at h1 ⊢
  rw [List.length_append, List.length_replicate] at h1
  congr 2; omega
theorem bare_lay (xs : List Int) : (bare3 xs).length ≤ (layL xs).length := by unfold layL padEq; simp
theorem layL_wf {xs : List Int} (hw : ∀ x ∈ bare3 xs, (Lit.int .u8 x).wf = true) : ∀ x ∈ layL xs, (Lit.int .u8 x).wf = true := by
  intro x hx
  unfold layL padEq at hx
  rcases List.mem_append.1 hx with h | h
  · exact hw x h
  · rw [List.eq_of_mem_replicate h]; decide
theorem Cells.sl {w : World} {g : Nat} {E : TypeId} {cur : List Value} {n c : Nat} {xs : List Int} (h : Cells w g E cur) (hx : xs.length = n) (hc : n ≤ c) (hm : c ≤ maxLen) (hw : ∀ x ∈ xs, (Lit.int .u8 x).wf = true)
    (ht : cur.take n = xs.map (Value.int .u8)) : Sl w .u8 (some ⟨g, 0, none⟩) n c xs := by
  refine ⟨hx, hc, hm, by simp, hw, fun hn => ⟨g, 0, rfl, (Array.getElem?_eq_some_iff.1 h).1, fun j hj => ?_⟩⟩
  rw [Nat.zero_add, cell_of_row w g j _ E (0, 0) h]
  have h5 : (cur.take n)[j]? = (xs.map (Value.int .u8))[j]? := by rw [ht]
  rw [List.getElem?_take, if_pos hj] at h5
  simp only [List.getElem?_toArray]
  rw [h5, List.getElem?_map, List.getElem?_eq_getElem (by omega), List.getD_eq_getElem?_getD, List.getElem?_eq_getElem (by omega)]
  rfl

set_option maxRecDepth 100000 in
set_option maxHeartbeats 1000000 in
theorem p14_Lay {A n c xs} {w : World} (hs : Sl w .u8 A n c xs) (hn : n ≤ 3000) : Calls Try.prog 22 #[.slice A n c] w (RetSl id .u8 (layL xs) w) := by
  have HL := Lib.hid hs.len
  have hsz : (Try.prog.info? 5).map (·.size) = some 1 := by kernel_rfl
  have hb0 : Below w.heap.size w (w.alloc (.cells #[.int .u8 61] 5)) := (Below.refl _ _).alloc (Nat.le_refl _) _
  by_cases h0 : n = 0
  · subst h0
    obtain rfl : xs = [] := List.eq_nil_of_length_eq_zero HL.out
    have e0 : lenL ((0 : Nat) : Int) = 0 := by decide
    have e1 : lenL 0 = 0 := by decide
    go_enter Try.func22, Try.ntmps22
    go_wp2_with fail
    refine (p14_Len (by omega)).mono ?_
    rintro e w' ⟨rfl, rfl⟩
    go_wp2_with fail
    refine lib_Repeat0.mono ?_
    rintro e w1 ⟨rfl, hb1⟩
    have hB1 := below_then' hb0 hb1 (Nat.le_refl _)
    have hs2 := hs.bel hB1
    go_wp2_with fail
    refine (p14_Bare hs2 (by omega)).mono ?_
    rintro e w2 ⟨v2, rfl, ho2, hb2⟩
    obtain ⟨A2, n2, c2, rfl, hs3⟩ := ho2.sl
    have hn2 : n2 = 0 := hs3.len.symm
    subst hn2
    have hB2 := below_then hB1 hb2
    go_wp2_with ((with_reducible refine wpList_copy_nothing rfl (.tmp 9) (.tmp 11) _ _ rfl 5 Try.underlying22 hsz _ _ 0 0 0 c2 rfl rfl rfl ?_))
    go_ret
    exact ⟨_, _, _, rfl, Sl.none_, hB2⟩
  · obtain ⟨N, hN⟩ : ∃ N : Nat, lenL (n : Int) = (N : Int) := ⟨(n - 1) / 3 * 4 + 4, by unfold lenL; rw [if_neg (by omega)]; omega⟩
    have hN2 : N = (n - 1) / 3 * 4 + 4 := by unfold lenL at hN; rw [if_neg (by omega)] at hN; omega
    have hN3 : N ≤ 8192 := by omega
    have hN4 : 0 < N := by omega
    have HN2 := Lib.hid hN2; clear hN2
    go_enter Try.func22, Try.ntmps22
    go_wp2_with fail
    refine (p14_Len (by omega)).mono ?_
    rintro e w' ⟨rfl, rfl⟩
    rw [hN]
    go_wp2_with fail
    refine (lib_Repeat (Sl.one _ _ _ _ (by decide)) hN4 hN3).mono ?_
    rintro e w1 ⟨g, cg, cur, rfl, hg, hcg1, hcg2, hcg3, hcells, htake, hb1⟩
    have hgB : w.heap.size ≤ g := by simp at hg; omega
    have hB1 := below_then' hb0 hb1 (Nat.le_refl _)
    have hs2 := hs.bel hB1
    have HC := Lib.hid hcells; have HT := Lib.hid htake
    clear hcells htake
    go_wp2_with fail
    refine (p14_Bare hs2 (by omega)).mono ?_
    rintro e w2 ⟨v2, rfl, ho2, hb2⟩
    have hwf := Lib.hid ho2.2
    obtain ⟨A2, n2, c2, rfl, hs3⟩ := ho2.sl
    have hB2 := below_then hB1 hb2
    have hl2 := hs3.len
    have hle2 : n2 ≤ N := by rw [← hl2]; have h5 := bare_lay xs; rw [layL_length xs (by have := HL.out; omega)] at h5; have := HN2.out; have := HL.out; omega
    have hglt : g < w1.heap.size := (Array.getElem?_eq_some_iff.1 HC.out).1
    have hC2 : Hid (w2.heap[g]? = some (.cells cur.toArray 5 (0, 0))) := (hb2.block g hglt).trans HC.out
    have hc1 : ((bare3 xs).map (Value.int .u8)).length = Nat.min n2 N := by rw [List.length_map, hl2]; exact (Nat.min_eq_left hle2).symm
    have hc3 : 0 + ((bare3 xs).map (Value.int .u8)).length ≤ cur.length := by rw [List.length_map, hl2]; omega
    have hc4 : ∀ v ∈ (bare3 xs).map (Value.int .u8), v.oneCell' = true := by intro v hv; obtain ⟨y, _, rfl⟩ := List.mem_map.1 hv; rfl
    have hc2 : 0 < ((bare3 xs).map (Value.int .u8)).length → ∃ ad, A2 = some ad ∧ ∀ (j : Nat) (v : Value), ((bare3 xs).map (Value.int .u8))[j]? = some v → w2.cell? (ad.add j) = some v := by
      intro hp
      obtain ⟨b, o, rfl, hb, hcc⟩ := hs3.at_ (by rw [List.length_map, hl2] at hp; exact hp)
      refine ⟨_, rfl, fun j v hj => ?_⟩
      have hjk : j < n2 := by
        rcases Nat.lt_or_ge j n2 with h | h
        · exact h
        · rw [List.getElem?_eq_none (by simp; omega)] at hj; cases hj
      have hadd : (⟨b, o, none⟩ : Addr).add j = ⟨b, o + j, none⟩ := by unfold Addr.add; split <;> simp_all
      rw [hadd, hcc j hjk]
      rw [List.getElem?_map, List.getElem?_eq_getElem (by omega)] at hj
      rw [List.getD_eq_getElem?_getD, List.getElem?_eq_getElem (by omega)]
      simpa using hj
    have H1 := Lib.hid hc1; have H2 := Lib.hid hc2; have H3 := Lib.hid hc3; have H4 := Lib.hid hc4
    have HL2 := Lib.hid hl2
    clear hc1 hc2 hc3 hc4 hl2 ho2
    go_wp2_with ((with_reducible refine wpList_copy_splice rfl (.tmp 9) (.tmp 11) _ _ rfl 5 Try.underlying22 hsz (some ⟨g, 0, none⟩) A2 N cg n2 c2 rfl rfl g 0 cur 5 hC2.out ((bare3 xs).map (Value.int .u8)) H1.out (fun h => ⟨rfl, H2.out h⟩) H3.out H4.out w.heap.size w hB2 hgB ?_); intro w3 hc5 hB3)
    go_ret
    refine ⟨_, _, _, rfl, ?_, hB3⟩
    refine Cells.sl (hc5.out) ?_ hcg1 (Nat.le_trans hcg2 hcg3) (layL_wf hwf.out) ?_
    · rw [layL_length xs (by have := HL.out; omega)]; have := HN2.out; have := HL.out; omega
    · have hsplit := layL_split xs (by have := HL.out; omega)
      have e5 : (xs.length - 1) / 3 * 4 + 4 = N := by have := HN2.out; have := HL.out; omega
      rw [e5] at hsplit
      rw [hsplit, List.map_append, List.map_replicate]
      unfold splice
      rw [List.take_zero, List.nil_append, Nat.zero_add, List.length_map, HL2.out]
      rw [List.take_append, List.length_map, HL2.out, List.take_of_length_le (by rw [List.length_map, HL2.out]; exact hle2)]
      congr 1
      have e6 : (cur.drop n2).take (N - n2) = (cur.take N).drop n2 := by rw [List.drop_take]
      rw [e6, HT.out, List.drop_replicate]
end Go.Proofs.Ytibnmekifaaacaa
