/- Layer 47 (date): the readers' skip: what both sides' methods do. Condition: the box is the call's own, the octets lay there before it, at most 2^22. -/
import Derived.Test.Ytjiofcnlibkhkaa47Y
namespace Go.Proofs.Ytjiofcnlibkhkaa
open Go.RowKit

theorem skipV_le {xs : List Int} {k : Nat} (y : Int) (h : k ≤ xs.length) : (skipV xs k y).1 ≤ xs.length := by
  have h2 := gapL_bd h
  unfold skipV
  split <;> simp only <;> omega
set_option maxRecDepth 100000 in
set_option maxHeartbeats 2000000 in
theorem p47_skip {w0 w : World} {b : Nat} {A : Option Addr} {n c : Nat} {xs : List Int} {k : Nat} {bad : Bool} {y : Int} (h : Rdr w0 w b A n c xs k bad) (hn : n ≤ 4194304) (hk : k ≤ n) :
    Calls Try.prog 45 #[.pointer (some ⟨b, 0, none⟩), .int .u8 y] w (fun e w' => e = .returned (.bool (skipV xs k y).2) ∧ Rdr w0 w' b A n c xs (skipV xs k y).1 bad ∧ Keeps b w w') := by
  have q0 := fun X : ExtW w.drew => (X.h.cell (p := ⟨b, 0, none⟩) h.lt).trans h.c0
  have q1 := fun X : ExtW w.drew => (X.h.cell (p := ⟨b, 1, none⟩) h.lt).trans h.c1
  have hcl := fun X : ExtW w.drew => p28_Skip (a := (k : Int)) (y := y) (h.now.drew.bel X.h) hn
  rw [withL_self hk] at hcl
  obtain ⟨r, hr⟩ : ∃ r, (skipV xs k y).1 = r := ⟨_, rfl⟩
  obtain ⟨ok, hok⟩ : ∃ r, (skipV xs k y).2 = r := ⟨_, rfl⟩
  rw [hr, hok] at hcl
  rw [hr, hok]
  clear hr hok
  go_enter Try.func45, Try.ntmps45
  go_wp2_with fail
  refine wp_region_any (by kernel_rfl) ?_
  (try (change wpAny _ _ _ _ _ _ _ (World.drew _)))
  refine wpAny_lex 0 _ rfl (by kernel_rfl) (by kernel_rfl) ?_
  simp only []
  quiet_step (fail)
  quiet_step (fail)
  quiet_step (fail)
  quiet_step (fail)
  quiet_step (fail)
  quiet_step (fail)
  quiet_step (fail)
  quiet_step (fail)
  quiet_step (fail)
  quiet_step ((rename_i X; go_at_call 58; exact Calls.ext X (hcl X)))
  quiet_step (fail)
  quiet_step (fail)
  quiet_step (fail)
  quiet_step (fail)
  quiet_step (fail)
  refine wpQuiet_nil ?_
  rintro _ ⟨X, rfl⟩
  have hbX : Below w.heap.size w X.W := (Below.refl _ _).drew.trans X.h
  have hX := h.below hbX
  have c1 := hX.c1
  have f1 := hX.f1
  have hP := hX.place (k' := r)
  have hK := (Keeps.of hbX).set (b := b) (o := 1) (.int .i64 r)
  clear q0 q1 hcl
  go_wp2
  go_ret
  exact ⟨rfl, hP, hK⟩
set_option maxRecDepth 100000 in
set_option maxHeartbeats 2000000 in
theorem r47_skip {w0 w : World} {b : Nat} {A : Option Addr} {n c : Nat} {xs : List Int} {k : Nat} {bad : Bool} {y : Int} (h : Rdr w0 w b A n c xs k bad) (hn : n ≤ 4194304) (hk : k ≤ n) :
    Calls Try.prog 36 #[.pointer (some ⟨b, 0, none⟩), .int .u8 y] w (fun e w' => e = .returned (.bool (skipV xs k y).2) ∧ Rdr w0 w' b A n c xs (skipV xs k y).1 bad ∧ Keeps b w w') := by
  have q0 := fun X : ExtW w.drew => (X.h.cell (p := ⟨b, 0, none⟩) h.lt).trans h.c0
  have q1 := fun X : ExtW w.drew => (X.h.cell (p := ⟨b, 1, none⟩) h.lt).trans h.c1
  have hcl := fun X : ExtW w.drew => r28_Skip (a := (k : Int)) (y := y) (h.now.drew.bel X.h) hn
  rw [withL_self hk] at hcl
  have hno : (skipV xs k y).2 = false → (skipV xs k y).1 = k := by unfold skipV; split <;> simp
  obtain ⟨r, hr⟩ : ∃ r, (skipV xs k y).1 = r := ⟨_, rfl⟩
  obtain ⟨ok, hok⟩ : ∃ r, (skipV xs k y).2 = r := ⟨_, rfl⟩
  rw [hr, hok] at hcl hno
  rw [hr, hok]
  clear hr hok
  go_enter Try.func36, Try.ntmps36
  go_wp2_with fail
  refine wp_region_any (by kernel_rfl) ?_
  (try (change wpAny _ _ _ _ _ _ _ (World.drew _)))
  refine wpAny_lex 0 _ rfl (by kernel_rfl) (by kernel_rfl) ?_
  simp only []
  quiet_step (fail)
  quiet_step (fail)
  quiet_step (fail)
  quiet_step (fail)
  quiet_step (fail)
  quiet_step (fail)
  quiet_step (fail)
  quiet_step (fail)
  quiet_step (fail)
  quiet_step ((rename_i X; go_at_call 52; exact Calls.ext_same X (hcl X)))
  quiet_step (fail)
  quiet_step (fail)
  quiet_step (fail)
  quiet_step (fail)
  quiet_step (fail)
  refine wpQuiet_nil ?_
  rintro _ ⟨X, rfl⟩
  have hbX : Below w.heap.size w X.W := (Below.refl _ _).drew.trans X.h
  have hX := h.below hbX
  have c1 := hX.c1
  have f1 := hX.f1
  have hP := hX.place (k' := r)
  have hK := (Keeps.of hbX).set (b := b) (o := 1) (.int .i64 r)
  clear q0 q1 hcl
  cases ok
  · obtain rfl := hno rfl
    go_wp2
    go_ret
    exact ⟨rfl, hX, Keeps.of hbX⟩
  · clear hno
    go_wp2
    go_ret
    exact ⟨rfl, hP, hK⟩
end Go.Proofs.Ytjiofcnlibkhkaa
