/- Layer 43 (dots): what is sent: what the functions of the program and of the reference return. Conditions: the arguments read as lists; lengths at most 2^20; the variable MaxLen holds a number. -/
import Derived.Test.Ytlmkhjegckgmcaa26P
import Derived.Test.Ytlmkhjegckgmcaa43S
namespace Go.Proofs.Ytlmkhjegckgmcaa
open Go.RowKit

theorem dotV_cons (x : Int) (r : List Int) : dotV (x :: r) = decide (x = 46) := rfl
set_option maxRecDepth 100000 in
set_option maxHeartbeats 1000000 in
theorem p43_dotted {A n c xs} {w : World} (hs : Sl w .u8 A n c xs) : Calls Try.prog 65 #[.slice A n c] w (Ret (.bool (dotV xs)) w) := by
  have HL := Lib.hid hs.len; have hle := hs.le; have hcm := hs.cm; unfold maxLen at hcm
  by_cases h0 : 0 < n
  · obtain ⟨b, o, x, rfl, hb, hcell, hwf, hd, _⟩ := hs.get (j := 0) h0
    simp only [Nat.add_zero] at hcell
    rw [List.drop_zero] at hd
    have e : dotV xs = (x == 46) := by rw [hd, dotV_cons]; rw [Bool.eq_iff_iff]; simp
    rw [e]
    clear e hd
    go_enter Try.func65, Try.ntmps65
    go_wp2
    go_ret
    exact ⟨rfl, rfl⟩
  · obtain rfl : n = 0 := by omega
    obtain rfl : xs = [] := List.eq_nil_of_length_eq_zero HL.out
    go_enter Try.func65, Try.ntmps65
    go_wp2
    go_ret
    exact ⟨rfl, rfl⟩
theorem p43_dottedE {A n c xs} {b : Bool} {w : World} (hs : Sl w .u8 A n c xs) (hb : dotV xs = b) : Calls Try.prog 65 #[.slice A n c] w (Ret (.bool b) w) := hb ▸ p43_dotted hs

set_option maxRecDepth 100000 in
set_option maxHeartbeats 1000000 in
theorem p43_Line {A n c xs} {w : World} (hs : Sl w .u8 A n c xs) (hn : n ≤ 4194304) : Calls Try.prog 34 #[.slice A n c] w (RetOwn id 5 .u8 (lineV xs) w) := by
  cases h : dotV xs with
  | true =>
    rw [dotV_line h]
    have H := Lib.hid h; clear h
    go_enter Try.func34, Try.ntmps34
    go_wp2_with (first | (go_at_call 65; refine (p43_dottedE hs H.out).mono ?_; rintro e w' ⟨rfl, rfl⟩) | (at_builtin; refine wpList_app rfl rfl eltB (by decide) rfl rfl (Own.one w .u8 5 46 (by decide) (Nat.le_refl _)) (hs.alloc _) ((Below.refl w.heap.size w).alloc (Nat.le_refl _) _) (by refine ⟨?_, ?_⟩ <;> first | omega | (simp; done) | (simp; omega)) (by first | omega | (simp; done) | (simp; omega)) ?_; intro v1 w1 ho1 hb1 hg1))
    go_ret
    exact ⟨v1, rfl, ho1, hb1⟩
  | false =>
    rw [dotV_line' h]
    have H := Lib.hid h; clear h
    go_enter Try.func34, Try.ntmps34
    go_wp2_with (first | (go_at_call 65; refine (p43_dottedE hs H.out).mono ?_; rintro e w' ⟨rfl, rfl⟩) | (go_at_call 59; refine (lib_BClone hs (by omega)).mono ?_; rintro e w1 ⟨v1, rfl, ho1, hb1⟩))
    go_ret
    exact ⟨v1, rfl, ho1, hb1⟩
set_option maxRecDepth 100000 in
set_option maxHeartbeats 1000000 in
theorem r43_Line {A n c xs} {w : World} (hs : Sl w .u8 A n c xs) (hn : n ≤ 4194304) : Calls Try.prog 35 #[.slice A n c] w (RetSl id .u8 (lineV xs) w) := by
  have HL := Lib.hid hs.len; have hle := hs.le; have hcm := hs.cm; unfold maxLen at hcm
  by_cases h0 : 0 < n
  · obtain ⟨b, o, x, rfl, hb, hcell, hwf, hd, _⟩ := hs.get (j := 0) h0
    simp only [Nat.add_zero] at hcell
    rw [List.drop_zero] at hd
    by_cases hx : x = 46
    · have e : lineV xs = 46 :: xs := dotV_line (by rw [hd, dotV_cons]; simp [hx])
      rw [e]
      subst hx
      clear e hd
      go_enter Try.func35, Try.ntmps35
      go_wp2_with (at_builtin; refine wpList_app rfl rfl eltB (by decide) rfl rfl (Own.one w .u8 5 46 (by decide) (Nat.le_refl _)) (hs.alloc _) ((Below.refl w.heap.size w).alloc (Nat.le_refl _) _) (by refine ⟨?_, ?_⟩ <;> first | omega | (simp; done) | (simp; omega)) (by first | omega | (simp; done) | (simp; omega)) ?_; intro v1 w1 ho1 hb1 hg1)
      obtain ⟨A1, n1, c1, rfl, hs1⟩ := ho1.sl
      go_ret
      exact ⟨_, _, _, rfl, hs1, hb1⟩
    · have e : lineV xs = xs := dotV_line' (by rw [hd, dotV_cons]; simp [hx])
      rw [e]
      have f : (x == 46) = false := by simpa using hx
      clear e hd hx
      go_enter Try.func35, Try.ntmps35
      go_wp2
      go_ret
      exact ⟨_, _, _, rfl, hs, Below.refl _ _⟩
  · obtain rfl : n = 0 := by omega
    obtain rfl : xs = [] := List.eq_nil_of_length_eq_zero HL.out
    go_enter Try.func35, Try.ntmps35
    go_wp2
    go_ret
    exact ⟨_, _, _, rfl, hs, Below.refl _ _⟩

/-- a function without captured variables that turns a line: into memory that the line lies in, or into new octets -/
structure Turn (P : Program) (g : Nat) (T : TypeId) (f : List Int → List Int) : Prop where
  ent : ∀ (args : Array Value) (w : World), (callFunc g args).run P w = .ok (.enter g args) w
  call : ∀ (A : Option Addr) (n c : Nat) (xs : List Int) (W : World), Sl W .u8 A n c xs → n ≤ 4194304 →
    Calls P g #[.slice A n c] W fun e W' => ∃ A' n' c', e = .returned (.slice A' n' c') ∧ Sl W' .u8 A' n' c' (f xs) ∧
      (0 < n' → ∀ a, A' = some a → (∃ a0, A = some a0 ∧ a.block = a0.block ∧ 0 < n) ∨ ∃ arr fr, W'.heap[a.block]? = some (.cells arr T fr)) ∧ Below W.heap.size W W'
theorem turn_Line : Turn Try.prog 34 5 lineV :=
  ⟨enters_of Try.func34 (by kernel_rfl) rfl, fun A n c xs W hs hn => (p43_Line hs hn).mono fun e W' ⟨v, he, ho, hb⟩ => by
    obtain ⟨A1, n1, c1, rfl, hs1⟩ := ho.sl
    refine ⟨A1, n1, c1, he, hs1, fun hn1 a ha => .inr ?_, hb⟩
    obtain ⟨_, _, arr, fr, hh⟩ := ho.blk a.block (by rw [ha]; rfl)
    exact ⟨arr, fr, hh⟩⟩

theorem map_take_succ {f : List Int → List Int} {ls : List (List Int)} {k : Nat} {x : List Int} (h : ls.take (k + 1) = ls.take k ++ [x]) : (ls.take (k + 1)).map f = (ls.take k).map f ++ [f x] := by rw [h]; simp
set_option maxRecDepth 100000 in
set_option maxHeartbeats 1000000 in
theorem p43_each {A n c ls} {g : Nat} {f : List Int → List Int} {w : World} (hf : Turn Try.prog g 5 f) (hs : Lns w A n c ls) (hn : n ≤ 4194304) (hl : ∀ l ∈ ls, l.length ≤ 4194304) (hJ : (joinL (ls.map f)).length ≤ 1073741824) :
    Calls Try.prog 64 #[.slice A n c, .func (.func g) #[] #[]] w (RetOwn id 5 .u8 (joinL (ls.map f)) w) := by
  have HL := Lib.hid hs.len
  have hent := hf.ent
  have hle := hs.le
  have hcm := hs.cm
  unfold maxLen at hcm
  have HM := Lib.hid hl; clear hl
  go_enter Try.func64, Try.ntmps64
  go_wp2
  go_loopw [5, 10] (fun v i wr => ∃ k : Nat, k ≤ n ∧ i = .int .i64 k ∧ OwnL wr w.heap.size 22 v ((ls.take k).map f) ∧ Below w.heap.size w wr) (fun _ i _ => n - (intOf i).toNat)
  case atStart => exact ⟨0, Nat.zero_le _, rfl, OwnL.nil _ _ _, Below.refl _ _⟩
  case round =>
    obtain ⟨k, hk, rfl, ho, hbel⟩ := hrel
    have hz := hbel.size
    have hs' := hs.bel hbel
    by_cases hlt : k < n
    · obtain ⟨b, o, A', n', c', x, rfl, hb, hcell0, hx0, hxe, hdx, ht⟩ := hs.get hlt
      have hcell : wr.cell? ⟨b, o + k, none⟩ = some (.slice A' n' c') := by rw [hbel.cell (p := ⟨b, o + k, none⟩) hb]; exact hcell0
      have hin : 0 < n' → ∀ a0, A' = some a0 → a0.block < w.heap.size := fun hn' a0 ha0 => hx0.blk hn' a0 ha0
      have hx := hx0.bel hbel
      have hxl : n' ≤ 4194304 := by
        have h5 := HM.out x (by
          have : x ∈ ls.drop k := by rw [hdx]; simp
          exact List.mem_of_mem_drop this)
        rw [hx.len] at h5; exact h5
      have HK := Lib.hid (map_take_succ (f := f) ht)
      have hcall := hf.call A' n' c' x wr hx hxl
      have HIN := Lib.hid hin
      have hlk : ((ls.take k).map f).length ≤ k := by simp; omega
      clear ht hdx hxe hcell0 hin hx0
      go_wp2_with fail
      refine hcall.mono ?_
      rintro e w1 ⟨A1, n1, c1, rfl, hs1, hsf1, hb1⟩
      have hln : Ln w1 w.heap.size 22 (.slice A1 n1 c1) (f x) := ⟨A1, n1, c1, rfl, hs1, fun hn1 a ha => by
        rcases hsf1 hn1 a ha with ⟨a0, h0, h1, h2⟩ | ⟨arr, fr, hh⟩
        · exact .inl (by rw [h1]; exact HIN.out h2 a0 h0)
        · exact .inr ⟨arr, _, fr, hh, by decide⟩⟩
      have hB1 := below_then' hbel hb1 (Nat.le_refl _)
      have hz1 := hB1.size
      clear hsf1 hcall hs1
      go_wp2_with (at_builtin; refine wpList_appL rfl rfl eltL rfl rfl (ho.below hb1) hln hB1 (by refine ⟨?_, ?_⟩ <;> first | omega | (simp; done) | (simp; omega)) (by first | omega | (simp; done) | (simp; omega)) ?_; intro v2 w2 ho2 hb2)
      (first | (go_roundw; (case rel => exact ⟨k + 1, by omega, by go_num, by rw [HK.out]; exact ho2, hb2⟩); (case measure => first | (simp [intOf] <;> omega) | (simp [lenOf] <;> omega))) | (refine ⟨?_, ?measure⟩; (repeat apply Exists.intro); refine ⟨?rel, ?eqs⟩; (case eqs => first | rfl | ((repeat (refine ⟨rfl, ?_⟩)); rfl)); (case rel => exact ⟨k + 1, by omega, by go_num, by rw [HK.out]; exact ho2, hb2⟩); (case measure => first | (simp [intOf] <;> omega) | (simp [lenOf] <;> omega))) | ((repeat apply Exists.intro); refine ⟨?rel, ?eqs⟩; (case eqs => first | rfl | ((repeat (refine ⟨rfl, ?_⟩)); rfl)); (case rel => exact ⟨k + 1, by omega, by go_num, by rw [HK.out]; exact ho2, hb2⟩)))
    · rw [List.take_of_length_le (by have := HL.out; omega)] at ho
      obtain ⟨A1, n1, c1, rfl, hL1⟩ := ho.lns
      have hn1 : n1 = n := by have h1 := hL1.len; have h2 := HL.out; simp at h1; omega
      subst hn1
      clear ho
      go_wp2_with (go_at_call 28; refine (p26_Join hL1 hn hJ).mono ?_; rintro e w2 ⟨v2, rfl, ho2, hb2⟩)
      go_ret
      exact ⟨v2, rfl, ho2.mono hz, below_then' hbel hb2 (Nat.le_refl _)⟩
end Go.Proofs.Ytlmkhjegckgmcaa
