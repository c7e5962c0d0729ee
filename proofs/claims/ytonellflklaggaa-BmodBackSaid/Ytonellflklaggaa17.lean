/- Layer 17 (bmod): what each function of the reference and of the program returns. Conditions: the arguments read as lists; lengths at most 3000 where octets are laid or read. -/
import Derived.Test.Ytonellflklaggaa14T
namespace Go.Proofs.Ytonellflklaggaa
open Go.RowKit

def swapL (a b c : Int) : Int := if c = a then b else c
def turnL (a b : Int) (xs : List Int) : List Int := xs.map (swapL a b)
theorem swapL_wf {a b c : Int} (hb : (Lit.int .u8 b).wf = true) (hc : (Lit.int .u8 c).wf = true) : (Lit.int .u8 (swapL a b c)).wf = true := by unfold swapL; split <;> assumption

set_option maxRecDepth 100000 in
set_option maxHeartbeats 1000000 in
theorem r17_turned {A n c xs} {a b : Int} {w : World} (hs : Sl w .u8 A n c xs) (hn : n ≤ 16777216) (hb : (Lit.int .u8 b).wf = true) :
    Calls Try.prog 61 #[.slice A n c, .int .u8 a, .int .u8 b] w (RetOwn id 5 .u8 (turnL a b xs) w) := by
  have HL := Lib.hid hs.len
  go_enter Try.func61, Try.ntmps61
  go_wp2
  go_loopw [7, 8] (fun v i wr => ∃ k : Nat, k ≤ n ∧ i = .int .i64 k ∧ Own wr w.heap.size 5 .u8 v (turnL a b (xs.take k)) ∧ Below w.heap.size w wr) (fun _ i _ => n - (intOf i).toNat)
  case atStart => exact ⟨0, Nat.zero_le _, rfl, Own.nil _ _ _ _, Below.refl _ _⟩
  case round =>
    obtain ⟨k, hk, rfl, ho, hbel⟩ := hrel
    have hz := hbel.size
    have hs' := hs.bel hbel
    have HT : (turnL a b (xs.take k)).length ≤ k := by simp [turnL]; omega
    by_cases hlt : k < n
    · obtain ⟨bb, o, x, rfl, hbb, hcell, hwf, _, ht⟩ := hs'.get hlt
      have hk1 : turnL a b (xs.take (k + 1)) = turnL a b (xs.take k) ++ [swapL a b x] := by rw [ht]; simp [turnL]
      clear ht
      have HK := Lib.hid hk1; clear hk1
      by_cases hxa : x = a
      · subst hxa
        have hsw : swapL x b x = b := by simp [swapL]
        rw [hsw] at HK
        clear hsw
        go_wp2_with (at_builtin; refine wpList_app rfl rfl eltB (by decide) rfl rfl (ho.alloc _) (Sl.one _ _ _ _ hb) (hbel.alloc (by omega) _) (by refine ⟨?_, ?_⟩ <;> first | omega | (simp; done) | (simp; omega)) (by first | omega | (simp; done) | (simp; omega)) ?_; intro v1 w1 ho1 hb1 hg1)
        (go_roundw; (case rel => exact ⟨k + 1, by omega, by go_num, by rw [HK.out]; exact ho1, hb1⟩); (case measure => first | (simp [intOf] <;> omega) | (simp [lenOf] <;> omega)))
      · have hf : (x == a) = false := by simpa using hxa
        have hsw : swapL a b x = x := by simp [swapL, hxa]
        rw [hsw] at HK
        clear hsw hxa
        go_wp2_with (at_builtin; refine wpList_app rfl rfl eltB (by decide) rfl rfl (ho.alloc _) (Sl.one _ _ _ _ hwf) (hbel.alloc (by omega) _) (by refine ⟨?_, ?_⟩ <;> first | omega | (simp; done) | (simp; omega)) (by first | omega | (simp; done) | (simp; omega)) ?_; intro v1 w1 ho1 hb1 hg1)
        (go_roundw; (case rel => exact ⟨k + 1, by omega, by go_num, by rw [HK.out]; exact ho1, hb1⟩); (case measure => first | (simp [intOf] <;> omega) | (simp [lenOf] <;> omega)))
    · go_wp2
      go_ret
      exact ⟨_, rfl, by rw [List.take_of_length_le (by have := HL.out; omega)] at ho; exact ho, hbel⟩

def usualL (xs : List Int) : List Int := turnL 44 47 xs
def modL (xs : List Int) : List Int := turnL 47 44 xs
set_option maxRecDepth 100000 in
set_option maxHeartbeats 1000000 in
theorem r17_Usual {A n c xs} {w : World} (hs : Sl w .u8 A n c xs) (hn : n ≤ 16777216) : Calls Try.prog 47 #[.slice A n c] w (RetOwn id 5 .u8 (usualL xs) w) := by
  go_enter Try.func47, Try.ntmps47
  go_wp2_with (go_at_call 61; refine (r17_turned hs hn (by decide)).mono ?_; rintro e w1 ⟨v1, rfl, ho1, hb1⟩)
  go_ret
  exact ⟨v1, rfl, ho1, hb1⟩
set_option maxRecDepth 100000 in
set_option maxHeartbeats 1000000 in
theorem r17_Modified {A n c xs} {w : World} (hs : Sl w .u8 A n c xs) (hn : n ≤ 16777216) : Calls Try.prog 49 #[.slice A n c] w (RetOwn id 5 .u8 (modL xs) w) := by
  go_enter Try.func49, Try.ntmps49
  go_wp2_with (go_at_call 61; refine (r17_turned hs hn (by decide)).mono ?_; rintro e w1 ⟨v1, rfl, ho1, hb1⟩)
  go_ret
  exact ⟨v1, rfl, ho1, hb1⟩

def val17 (c : Int) : Int := if c = 44 then 63 else if c = 47 then 0 else valL c
def isD17 (c : Int) : Bool := if c = 44 then true else if c = 47 then false else isD c
set_option maxRecDepth 100000 in
set_option maxHeartbeats 1000000 in
theorem r17_Value {c : Int} {w : World} : Calls Try.prog 39 #[.int .u8 c] w (Ret (.tuple #[.int .i64 (val17 c), .bool (isD17 c)]) w) := by
  by_cases h1 : c = 44
  · subst h1
    go_enter Try.func39, Try.ntmps39
    go_wp2
    go_ret2
    exact ⟨rfl, rfl⟩
  · by_cases h2 : c = 47
    · subst h2
      go_enter Try.func39, Try.ntmps39
      go_wp2
      go_ret2
      exact ⟨rfl, rfl⟩
    · have f1 : (c == 44) = false := by simpa using h1
      have f2 : (c == 47) = false := by simpa using h2
      go_enter Try.func39, Try.ntmps39
      go_wp2_with (go_at_call 14; refine r14_Value.mono ?_; rintro e w' ⟨rfl, rfl⟩)
      go_ret2
      exact ⟨ret2 (vint (by simp [val17, h1, h2])) (vbool (by simp [isD17, h1, h2])), rfl⟩
set_option maxRecDepth 100000 in
set_option maxHeartbeats 1000000 in
theorem p17_Value {c : Int} {w : World} (hc : (Lit.int .u8 c).wf = true) : Calls Try.prog 38 #[.int .u8 c] w (Ret (.tuple #[.int .i64 (val17 c), .bool (isD17 c)]) w) := by
  by_cases h1 : c = 44
  · subst h1
    go_enter Try.func38, Try.ntmps38
    go_wp2
    go_ret2
    exact ⟨rfl, rfl⟩
  · by_cases h2 : c = 47
    · subst h2
      go_enter Try.func38, Try.ntmps38
      go_wp2
      go_ret2
      exact ⟨rfl, rfl⟩
    · have f1 : (c == 44) = false := by simpa using h1
      have f2 : (c == 47) = false := by simpa using h2
      go_enter Try.func38, Try.ntmps38
      go_wp2_with (go_at_call 13; refine (p14_Value hc).mono ?_; rintro e w' ⟨rfl, rfl⟩)
      go_ret2
      exact ⟨ret2 (vint (by simp [val17, h1, h2])) (vbool (by simp [isD17, h1, h2])), rfl⟩

def lay17 (xs : List Int) : List Int := modL (bare3 xs)
set_option maxRecDepth 100000 in
set_option maxHeartbeats 1000000 in
theorem r17_Lay {A n c xs} {w : World} (hs : Sl w .u8 A n c xs) (hn : n ≤ 3000) : Calls Try.prog 41 #[.slice A n c] w (RetOwn id 5 .u8 (lay17 xs) w) := by
  have HL := Lib.hid hs.len
  go_enter Try.func41, Try.ntmps41
  go_wp2_with fail
  refine (r14_Bare hs (by omega)).mono ?_
  rintro e w1 ⟨v1, rfl, ho1, hb1⟩
  obtain ⟨A1, n1, c1, rfl, hs1⟩ := ho1.sl
  have hn1 : n1 ≤ 6000 := by have := hs1.len; have := bare3_le xs; have := HL.out; omega
  go_wp2_with (go_at_call 49; refine (r17_Modified hs1 (by omega)).mono ?_; rintro e w2 ⟨v2, rfl, ho2, hb2⟩)
  go_ret
  exact ⟨v2, rfl, ho2.mono hb1.size, below_then hb1 hb2⟩

def len17 (n : Int) : Int := if n < 1 then 0 else n / 3 * 4 + (if n % 3 = 0 then 0 else n % 3 + 1)
set_option maxRecDepth 100000 in
set_option maxHeartbeats 1000000 in
theorem p17_Len {n : Int} {w : World} (hn : n ≤ 1152921504606846976) : Calls Try.prog 42 #[.int .i64 n] w (Ret (.int .i64 (len17 n)) w) := by
  by_cases h0 : n < 1
  · go_enter Try.func42, Try.ntmps42
    go_wp2
    go_ret
    exact ⟨ret_int (by simp [len17, h0]), rfl⟩
  · by_cases h3 : n % 3 = 0
    · have h3' : ¬ 0 < n % 3 := by omega
      go_enter Try.func42, Try.ntmps42
      go_wp2
      go_ret
      exact ⟨ret_int (by unfold len17; rw [if_neg (by omega), if_pos (by omega)]; omega), rfl⟩
    · have h3' : 0 < n % 3 := by omega
      clear h3
      go_enter Try.func42, Try.ntmps42
      go_wp2
      go_ret
      exact ⟨ret_int (by unfold len17; rw [if_neg (by omega), if_neg (by omega)]), rfl⟩
set_option maxRecDepth 100000 in
set_option maxHeartbeats 1000000 in
theorem r17_Len {n : Int} {w : World} (hn : n ≤ 1152921504606846976) : Calls Try.prog 43 #[.int .i64 n] w (RetB (.int .i64 (len17 n)) w) := by
  by_cases h0 : n < 1
  · go_enter Try.func43, Try.ntmps43
    go_wp2
    go_ret
    exact ⟨ret_int (by simp [len17, h0]), Below.refl _ _⟩
  · obtain ⟨k, hk⟩ : ∃ k : Nat, n % 3 = (k : Int) := ⟨(n % 3).toNat, by omega⟩
    have h3 : k = 0 ∨ k = 1 ∨ k = 2 := by omega
    rcases h3 with h3 | h3 | h3 <;> subst h3
    all_goals
      have HK := Lib.hid hk
      go_enter Try.func43, Try.ntmps43
      go_wp2
      go_ret
      exact ⟨ret_int (by have := HK.out; unfold len17; rw [if_neg (by omega)]; split <;> omega), (Below.refl _ _).alloc (Nat.le_refl _) _⟩

/-! the program's turning -/
set_option maxRecDepth 100000 in
set_option maxHeartbeats 1000000 in
theorem p17_swap1 {a b c : Int} {p q : Addr} {w : World} (hp : w.cell? p = some (.int .u8 a)) (hq : w.cell? q = some (.int .u8 b)) :
    Calls Try.prog 68 #[.int .u8 c, .pointer (some p), .pointer (some q)] w (Ret (.int .u8 (swapL a b c)) w) := by
  by_cases h : c = a
  · have h' : (c == a) = true := by simpa using h
    go_enter Try.func68, Try.ntmps68
    go_wp2
    go_ret
    exact ⟨ret_int (by simp [swapL, h]), rfl⟩
  · have h' : (c == a) = false := by simpa using h
    go_enter Try.func68, Try.ntmps68
    go_wp2
    go_ret
    exact ⟨ret_int (by simp [swapL, h]), rfl⟩
def RetSwap (a b : Int) (w : World) (e : Ending) (w' : World) : Prop :=
  ∃ p q : Nat, e = .returned (.func (.func 68) #[] #[.pointer (some ⟨p, 0, none⟩), .pointer (some ⟨q, 0, none⟩)]) ∧ p < w'.heap.size ∧ q < w'.heap.size ∧ w'.cell? ⟨p, 0, none⟩ = some (.int .u8 a) ∧ w'.cell? ⟨q, 0, none⟩ = some (.int .u8 b) ∧ Below w.heap.size w w'
set_option maxRecDepth 100000 in
set_option maxHeartbeats 1000000 in
theorem p17_swap {a b : Int} {w : World} : Calls Try.prog 60 #[.int .u8 a, .int .u8 b] w (RetSwap a b w) := by
  go_enter Try.func60, Try.ntmps60
  go_wp2
  go_ret
  refine ⟨w.heap.size, w.heap.size + 1, rfl, by simp; omega, by simp, ?_, ?_, ((Below.refl _ _).alloc (Nat.le_refl _) _).alloc (by simp) _⟩
  · go_simp
  · go_simp

set_option maxRecDepth 100000 in
set_option maxHeartbeats 1000000 in
theorem p17_turned {A n c xs} {a b : Int} {p q : Nat} {w : World} (hs : Sl w .u8 A n c xs) (hn : n ≤ 16777216) (hb : (Lit.int .u8 b).wf = true) (hp : p < w.heap.size) (hq : q < w.heap.size)
    (cp : w.cell? ⟨p, 0, none⟩ = some (.int .u8 a)) (cq : w.cell? ⟨q, 0, none⟩ = some (.int .u8 b)) :
    Calls Try.prog 59 #[.slice A n c, .func (.func 68) #[] #[.pointer (some ⟨p, 0, none⟩), .pointer (some ⟨q, 0, none⟩)]] w (RetOwn id 5 .u8 (turnL a b xs) w) := by
  have CP := Lib.hid cp; have CQ := Lib.hid cq
  clear cp cq
  go_enter Try.func59, Try.ntmps59
  go_wp2_with fail
  refine (lib_BClone hs (by omega)).mono ?_
  rintro e w1 ⟨v, rfl, ho, hb1⟩
  obtain ⟨A1, n1, c1, rfl, hs1⟩ := ho.sl
  have hz := hb1.size
  have HL := Lib.hid hs1.len; have hle := hs1.le; have hcm := hs1.cm; unfold maxLen at hcm
  go_wp2
  go_loopw [12] (fun i wr => ∃ k : Nat, k ≤ n1 ∧ i = .int .i64 k ∧ Own wr w.heap.size 5 .u8 (.slice A1 n1 c1) (mapAt (swapL a b) xs k) ∧ Below w.heap.size w wr) (fun i _ => n1 - (intOf i).toNat)
  case atStart => exact ⟨0, Nat.zero_le _, rfl, by rw [mapAt_zero]; exact ho, hb1⟩
  case round =>
    obtain ⟨k, hk, rfl, hok, hbel⟩ := hrel
    by_cases hlt : k < n1
    · obtain ⟨x, hwf, hd, ht⟩ := hs1.el hlt
      obtain ⟨g, rfl, hg, hgl, hcell, hfr, hst⟩ := hok.at_ (j := k) (by rw [mapAt_length]; have := HL.out; omega)
      rw [mapAt_get hd] at hcell
      have HD := Lib.hid hd; clear hd
      have HT := Lib.hid ht; clear ht
      have HST := Lib.hid hst; clear hst
      have hcp := (hbel.cell (p := ⟨p, 0, none⟩) hp).trans CP.out
      have hcq := (hbel.cell (p := ⟨q, 0, none⟩) hq).trans CQ.out
      go_wp2_with (go_at_call 68; refine (p17_swap1 hcp hcq).mono ?_; rintro e w' ⟨rfl, rfl⟩)
      (go_roundw; (case rel => exact ⟨k + 1, by omega, by go_num, by have := HST.out _ (swapL_wf (a := a) hb hwf); rw [← mapAt_set HD.out HT.out]; exact this, hbel.setCell hg _⟩); (case measure => first | (simp [intOf] <;> omega) | (simp [lenOf] <;> omega)))
    · go_wp2
      go_ret
      exact ⟨_, rfl, by rw [mapAt_all _ _ _ (by have := HL.out; omega)] at hok; exact hok, hbel⟩
set_option maxRecDepth 100000 in
set_option maxHeartbeats 1000000 in
theorem p17_Usual {A n c xs} {w : World} (hs : Sl w .u8 A n c xs) (hn : n ≤ 16777216) : Calls Try.prog 46 #[.slice A n c] w (RetOwn id 5 .u8 (usualL xs) w) := by
  go_enter Try.func46, Try.ntmps46
  go_wp2_with fail
  refine p17_swap.mono ?_
  rintro e w1 ⟨p, q, rfl, hp, hq, cp, cq, hb1⟩
  go_wp2_with (go_at_call 59; refine (p17_turned (hs.bel hb1) hn (by decide) hp hq cp cq).mono ?_; rintro e w2 ⟨v2, rfl, ho2, hb2⟩)
  go_ret
  exact ⟨v2, rfl, ho2.mono hb1.size, below_then hb1 hb2⟩
set_option maxRecDepth 100000 in
set_option maxHeartbeats 1000000 in
theorem p17_Modified {A n c xs} {w : World} (hs : Sl w .u8 A n c xs) (hn : n ≤ 16777216) : Calls Try.prog 48 #[.slice A n c] w (RetOwn id 5 .u8 (modL xs) w) := by
  go_enter Try.func48, Try.ntmps48
  go_wp2_with fail
  refine p17_swap.mono ?_
  rintro e w1 ⟨p, q, rfl, hp, hq, cp, cq, hb1⟩
  go_wp2_with (go_at_call 59; refine (p17_turned (hs.bel hb1) hn (by decide) hp hq cp cq).mono ?_; rintro e w2 ⟨v2, rfl, ho2, hb2⟩)
  go_ret
  exact ⟨v2, rfl, ho2.mono hb1.size, below_then hb1 hb2⟩
set_option maxRecDepth 100000 in
set_option maxHeartbeats 1000000 in
theorem p17_Lay {A n c xs} {w : World} (hs : Sl w .u8 A n c xs) (hn : n ≤ 3000) : Calls Try.prog 40 #[.slice A n c] w (RetOwn id 5 .u8 (lay17 xs) w) := by
  have HL := Lib.hid hs.len
  go_enter Try.func40, Try.ntmps40
  go_wp2_with fail
  refine (p14_Bare hs (by omega)).mono ?_
  rintro e w1 ⟨v1, rfl, ho1, hb1⟩
  obtain ⟨A1, n1, c1, rfl, hs1⟩ := ho1.sl
  have hn1 : n1 ≤ 6000 := by have := hs1.len; have := bare3_le xs; have := HL.out; omega
  go_wp2_with (go_at_call 48; refine (p17_Modified hs1 (by omega)).mono ?_; rintro e w2 ⟨v2, rfl, ho2, hb2⟩)
  go_ret
  exact ⟨v2, rfl, ho2.mono hb1.size, below_then hb1 hb2⟩

def usable17 (xs : List Int) : Bool := xs.all isD17
def err17 (xs : List Int) : Int := if usable17 xs = false then 3 else if xs.length % 4 = 1 then 4 else if zeroL (sixesL (usualL xs)) = false then 3 else 0
def oct17 (xs : List Int) : List Int := if err17 xs = 0 then oct8 (sixesL (usualL xs)) else []
theorem usual_all {xs : List Int} (h : usable17 xs = true) : allD (usualL xs) = true := by
  unfold usable17 at h; unfold allD usualL turnL
  rw [List.all_eq_true] at h ⊢
  intro y hy
  obtain ⟨x, hx, rfl⟩ := List.mem_map.1 hy
  have := h x hx
  unfold isD17 at this
  unfold swapL
  by_cases h1 : x = 44
  · rw [if_pos h1]; decide
  · rw [if_neg h1] at this ⊢
    by_cases h2 : x = 47
    · rw [if_pos h2] at this; cases this
    · rwa [if_neg h2] at this
theorem usual_length (xs : List Int) : (usualL xs).length = xs.length := by simp [usualL, turnL]

set_option maxRecDepth 100000 in
set_option maxHeartbeats 1000000 in
theorem r17_Read {A n c xs} {w : World} (hs : Sl w .u8 A n c xs) (hn : n ≤ 3000) :
    Calls Try.prog 45 #[.slice A n c] w (RetOwn (fun v => .tuple #[v, .int .i64 (err17 xs)]) 5 .u8 (oct17 xs) w) := by
  have HL := Lib.hid hs.len
  go_enter Try.func45, Try.ntmps45
  go_wp2
  go_loop [4] (fun i => ∃ k : Nat, k ≤ n ∧ i = .int .i64 k ∧ Hid (∀ x ∈ xs.take k, isD17 x = true)) (fun i => n - (intOf i).toNat)
  case atStart => exact ⟨0, Nat.zero_le _, rfl, by show ∀ x ∈ xs.take 0, _; simp⟩
  case round =>
    obtain ⟨k, hk, rfl, hA⟩ := hrel
    by_cases hlt : k < n
    · obtain ⟨b, o, x, rfl, hb, hcell, hwf, hd, ht⟩ := hs.get hlt
      have HD := Lib.hid hd; have HT := Lib.hid ht
      clear hd ht
      by_cases hx : isD17 x = true
      · have HX := Lib.hid hx
        go_wp2_with (go_at_call 39; refine r17_Value.mono ?_; rintro e w' ⟨rfl, rfl⟩)
        (go_round; (case rel => exact ⟨k + 1, by omega, by go_num, by show ∀ z ∈ _, _; rw [HT.out]; intro z hz; rcases List.mem_append.1 hz with hz | hz; exact hA.out z hz; simp at hz; subst hz; exact HX.out⟩); (case measure => first | (simp [intOf] <;> omega) | (simp [lenOf] <;> omega)))
      · have hx' : isD17 x = false := by simpa using hx
        have hno : usable17 xs = false := by rw [usable17, all_cons_drop hA.out, HD.out]; simp [hx']
        have he : err17 xs = 3 := by unfold err17; rw [if_pos hno]
        have HE := Lib.hid he
        clear he hno
        go_wp2_with (go_at_call 39; refine r17_Value.mono ?_; rintro e w' ⟨rfl, rfl⟩)
        go_ret2
        exact ⟨.slice none 0 0, ret2 rfl (vint HE.out.symm), by unfold oct17; rw [HE.out]; exact Own.nil _ _ _ _, Below.refl _ _⟩
    · have hyes : usable17 xs = true := by rw [usable17, all_cons_drop hA.out, List.drop_eq_nil_of_le (by have := HL.out; omega)]; rfl
      have HY := Lib.hid hyes
      clear hA hyes
      by_cases h4 : n % 4 = 1
      · have h4' : ((n : Int) % 4 == 1) = true := by simp; omega
        have he : err17 xs = 4 := by unfold err17; have h6 := HL.out; rw [HY.out, h6, if_neg (by simp), if_pos h4]
        have HE := Lib.hid he
        clear he h4
        go_wp2
        go_ret2
        exact ⟨.slice none 0 0, ret2 rfl (vint HE.out.symm), by unfold oct17; rw [HE.out]; exact Own.nil _ _ _ _, Below.refl _ _⟩
      · have h4' : ((n : Int) % 4 == 1) = false := by simp; omega
        have H4 := Lib.hid h4; clear h4
        go_wp2_with fail
        refine (r17_Usual hs (by omega)).mono ?_
        rintro e w1 ⟨v1, rfl, ho1, hb1⟩
        obtain ⟨A1, n1, c1, rfl, hs1⟩ := ho1.sl
        have hn1 : n1 ≤ 3000 := by have h5 := hs1.len; rw [usual_length] at h5; have := HL.out; omega
        clear ho1
        go_wp2_with fail
        refine (r14_Values hs1 (by omega)).mono ?_
        rintro e w2 ⟨v2, rfl, ho2, hb2⟩
        have hv : valuesL (usualL xs) = sixesL (usualL xs) := by unfold valuesL; rw [usual_all HY.out]; rfl
        rw [hv] at ho2
        clear hv
        obtain ⟨A2, n2, c2, rfl, hs2⟩ := ho2.sl
        have hB2 := below_then hb1 hb2
        clear ho2
        have hn2 : n2 ≤ 268435456 := by have h5 := hs2.len; rw [sixesL_length, usual_length] at h5; have := HL.out; omega
        have hbits : isBits (sixesL (usualL xs)) := bits_flat (fun c => bits_six (valL c)) _
        go_wp2_with fail
        refine (r14_Octets hs2 hbits hn2).mono ?_
        rintro e w3 ⟨v3, rfl, ho3, hb3⟩
        have hB3 := below_then hB2 hb3
        by_cases hz : zeroL (sixesL (usualL xs)) = true
        · have he : err17 xs = 0 := by unfold err17; have h6 := HL.out; rw [HY.out, h6, hz, if_neg (by simp), if_neg H4.out, if_neg (by simp)]
          have HE := Lib.hid he; clear he
          go_wp2
          go_ret2
          exact ⟨_, ret2 rfl (vint HE.out.symm), by unfold oct17; rw [if_pos HE.out]; exact ho3.mono hB2.size, hB3⟩
        · have hz' : zeroL (sixesL (usualL xs)) = false := by simpa using hz
          have he : err17 xs = 3 := by unfold err17; have h6 := HL.out; rw [HY.out, h6, hz', if_neg (by simp), if_neg H4.out, if_pos rfl]
          have HE := Lib.hid he; clear he
          go_wp2
          go_ret2
          exact ⟨.slice none 0 0, ret2 rfl (vint HE.out.symm), by unfold oct17; rw [HE.out]; exact Own.nil _ _ _ _, hB3⟩
theorem digit_ne61 {c : Int} (h : isD c = true) : c ≠ 61 := by simp [isD] at h; omega
theorem read17 {xs : List Int} (h : usable17 xs = true) (h4 : xs.length % 4 ≠ 1) {t : Nat} (ht : t ≤ 2) (hl : ((usualL xs).length + t) % 4 = 0) :
    errB (usualL xs ++ List.replicate t 61) = err17 xs ∧ octB (usualL xs ++ List.replicate t 61) = oct17 xs := by
  have hall := usual_all h
  have hb : bodyL (usualL xs ++ List.replicate t 61) = usualL xs := bodyL_pad (fun y hy => digit_ne61 (List.all_eq_true.1 hall y hy)) ht
  have e : errB (usualL xs ++ List.replicate t 61) = err17 xs := by
    unfold errB err17 sixB
    rw [hb, hall, h, List.length_append, List.length_replicate, hl]
    cases zeroL (sixesL (usualL xs)) <;> simp [h4]
  refine ⟨e, ?_⟩
  unfold octB oct17 sixB
  rw [e, hb]

set_option maxRecDepth 100000 in
set_option maxHeartbeats 1000000 in
theorem p17_Read {A n c xs} {w : World} (hs : Sl w .u8 A n c xs) (hn : n ≤ 3000) :
    Calls Try.prog 44 #[.slice A n c] w (RetOwn (fun v => .tuple #[v, .int .i64 (err17 xs)]) 5 .u8 (oct17 xs) w) := by
  have HL := Lib.hid hs.len
  go_enter Try.func44, Try.ntmps44
  go_wp2
  go_loop [11] (fun i => ∃ k : Nat, k ≤ n ∧ i = .int .i64 k ∧ Hid (∀ x ∈ xs.take k, isD17 x = true)) (fun i => n - (intOf i).toNat)
  case atStart => exact ⟨0, Nat.zero_le _, rfl, by show ∀ x ∈ xs.take 0, _; simp⟩
  case round =>
    obtain ⟨k, hk, rfl, hA⟩ := hrel
    by_cases hlt : k < n
    · obtain ⟨b, o, x, rfl, hb, hcell, hwf, hd, ht⟩ := hs.get hlt
      have HD := Lib.hid hd; have HT := Lib.hid ht
      clear hd ht
      by_cases hx : isD17 x = true
      · have HX := Lib.hid hx
        go_wp2_with (go_at_call 38; refine (p17_Value hwf).mono ?_; rintro e w' ⟨rfl, rfl⟩)
        (go_round; (case rel => exact ⟨k + 1, by omega, by go_num, by show ∀ z ∈ _, _; rw [HT.out]; intro z hz; rcases List.mem_append.1 hz with hz | hz; exact hA.out z hz; simp at hz; subst hz; exact HX.out⟩); (case measure => first | (simp [intOf] <;> omega) | (simp [lenOf] <;> omega)))
      · have hx' : isD17 x = false := by simpa using hx
        have hno : usable17 xs = false := by rw [usable17, all_cons_drop hA.out, HD.out]; simp [hx']
        have he : err17 xs = 3 := by unfold err17; rw [if_pos hno]
        have HE := Lib.hid he
        clear he hno
        go_wp2_with (go_at_call 38; refine (p17_Value hwf).mono ?_; rintro e w' ⟨rfl, rfl⟩)
        go_ret2
        exact ⟨.slice none 0 0, ret2 rfl (vint HE.out.symm), by unfold oct17; rw [HE.out]; exact Own.nil _ _ _ _, Below.refl _ _⟩
    · have hyes : usable17 xs = true := by rw [usable17, all_cons_drop hA.out, List.drop_eq_nil_of_le (by have := HL.out; omega)]; rfl
      have HY := Lib.hid hyes
      clear hA hyes
      by_cases h4 : n % 4 = 1
      · have h4' : ((n : Int) % 4 == 1) = true := by simp; omega
        have he : err17 xs = 4 := by unfold err17; have h6 := HL.out; rw [HY.out, h6, if_neg (by simp), if_pos h4]
        have HE := Lib.hid he
        clear he h4
        go_wp2
        go_ret2
        exact ⟨.slice none 0 0, ret2 rfl (vint HE.out.symm), by unfold oct17; rw [HE.out]; exact Own.nil _ _ _ _, Below.refl _ _⟩
      · have h4' : ((n : Int) % 4 == 1) = false := by simp; omega
        have H4 := Lib.hid h4; clear h4
        go_wp2_with fail
        refine (p17_Usual hs (by omega)).mono ?_
        rintro e w1 ⟨v1, rfl, ho1, hb1⟩
        have hz1 := hb1.size
        go_wp2
        go_loopw [8] (fun v wr => ∃ (j : Nat) (A1 : Option Addr) (n1 c1 : Nat), j ≤ (4 - n % 4) % 4 ∧ n1 = n + j ∧ v = .slice A1 n1 c1 ∧ Own wr w.heap.size 5 .u8 v (usualL xs ++ List.replicate j 61) ∧ Below w.heap.size w wr) (fun v _ => (4 - lenOf v % 4) % 4)
        case atStart =>
          obtain ⟨A1, n1, c1, rfl, hs1⟩ := ho1.sl
          exact ⟨0, A1, n1, c1, by omega, by have h5 := hs1.len; rw [usual_length] at h5; have := HL.out; omega, rfl, by simpa using ho1, hb1⟩
        case round =>
          obtain ⟨j, A1, n1, c1, hj, hn1, rfl, ho2, hbel⟩ := hrel
          have hz := hbel.size
          have HN1 := Lib.hid hn1
          by_cases hm : n1 % 4 = 0
          · have hm' : ((n1 : Int) % 4 != 0) = false := by simp; omega
            have hn2 : n1 ≤ 3010 := by omega
            obtain ⟨r1, r2⟩ := read17 HY.out (by rw [HL.out]; exact H4.out) (t := j) (by have := H4.out; omega) (by rw [usual_length, HL.out, ← hn1]; exact hm)
            obtain ⟨_, _, _, e1, hs2⟩ := ho2.sl
            injection e1 with e1 e2 e3
            subst e1; subst e2; subst e3
            clear hm hn1
            have HR1 := Lib.hid r1; have HR2 := Lib.hid r2
            clear r1 r2
            go_wp2_with fail
            refine (p14_Read hs2 (by omega)).mono ?_
            rintro e w2 ⟨v2, rfl, ho3, hb3⟩
            rw [HR1.out]
            rw [HR2.out] at ho3
            go_wp2
            go_ret2
            exact ⟨v2, rfl, ho3.mono hz, below_then hbel hb3⟩
          · have hm' : ((n1 : Int) % 4 != 0) = true := by simp; omega
            have hl : (usualL xs ++ List.replicate j 61).length ≤ 3010 := by simp [usual_length]; have := HL.out; omega
            have HM := Lib.hid hm; clear hm
            clear hn1
            go_wp2_with (at_builtin; refine wpList_app rfl rfl eltB (by decide) rfl rfl (ho2.alloc _) (Sl.one _ _ _ _ (by decide)) (hbel.alloc (by omega) _) (by refine ⟨?_, ?_⟩ <;> first | omega | (simp; done) | (simp; omega)) (by first | omega | (simp; done) | (simp; omega)) ?_; intro v2 w2 ho1 hb2 hg1)
            obtain ⟨A2, n2, c2, rfl, hs2⟩ := ho1.sl
            have hn2 : n2 = n1 + 1 := by have h1 := hs2.len; have h2 := HN1.out; have h3 := HL.out; simp only [List.length_append, List.length_replicate, List.length_cons, List.length_nil, usual_length] at h1; omega
            have hM := HM.out
            have hN1 := HN1.out
            (go_roundw; (case rel => exact ⟨j + 1, A2, n2, c2, by omega, by omega, rfl, by rw [List.append_assoc] at ho1; rw [List.replicate_succ']; exact ho1, hb2⟩); (case measure => first | (simp [intOf] <;> omega) | (simp [lenOf] <;> omega)))
end Go.Proofs.Ytonellflklaggaa
