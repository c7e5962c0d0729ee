/- Layer 47 (date): a name's three letters: what the functions of the program and of the reference return. Condition: the place is one of the names'. -/
import Derived.Test.Ytjiofcnlibkhkaa47F
import Derived.Test.Ytjiofcnlibkhkaa47
namespace Go.Proofs.Ytjiofcnlibkhkaa
open Go.RowKit

def dayS : ByteArray := { data := #[115, 117, 110, 109, 111, 110, 116, 117, 101, 119, 101, 100, 116, 104, 117, 102, 114, 105, 115, 97, 116] }
def monS : ByteArray := { data := #[106, 97, 110, 102, 101, 98, 109, 97, 114, 97, 112, 114, 109, 97, 121, 106, 117, 110, 106, 117, 108, 97, 117, 103, 115, 101, 112, 111, 99, 116, 110, 111, 118, 100, 101, 99] }
set_option maxRecDepth 100000 in
set_option maxHeartbeats 2000000 in
theorem p47_capital {all : ByteArray} {n : Nat} {x : List Int} {a : Int} {w : World} (hn : 3 * n + 3 ≤ all.size) (hs : all.size ≤ 100)
    (hx : ∀ (t : ByteArray), all.extract (3 * n) (3 * n + 3) = t → t.size = 3 → (∀ h : 0 < t.size, ((t[0]'h).toNat : Int) = a) ∧ strOfNums [a - 32] ++ t.extract 1 3 = strOfNums x) (ha : 97 ≤ a ∧ a ≤ 122) :
    Calls Try.prog 25 #[.string all, .int .i64 n] w (RetB (.string (strOfNums x)) w) := by
  have hsz : (all.extract (3 * n) (3 * n + 3)).size = 3 := by rw [ByteArray.size_extract]; omega
  obtain ⟨ha1, ha2⟩ := ha
  have hwr : IntKind.u8.wrap (a - 32) = a - 32 := by
    have : (Lit.int .u8 (a - 32)).wf = true := wf_u8.2 (by omega)
    simp [IntKind.wrap, IntKind.bits, IntKind.signed]; omega
  have hsl : Sl ((w.alloc (.cells #[.int .u8 (a - 32)] 5)).drew) .u8 (some ⟨w.heap.size, 0, none⟩) 1 1 [a - 32] := (Sl.one w .u8 5 (a - 32) (wf_u8.2 (by omega))).drew
  have hcv := hsl.str (P := Try.prog) 30 5 9 Try.underlying30 Try.underlying5 Try.underlying9
  go_enter Try.func25, Try.ntmps25
  go_wp2_with fail
  obtain ⟨t, ht⟩ : ∃ t, all.extract (3 * n) (3 * n + 3) = t := ⟨_, rfl⟩
  rw [ht] at hsz
  (try rw [ht])
  obtain ⟨hx1, hx2⟩ := hx t ht hsz
  have h0 := hx1 (by omega)
  clear hx1 hx
  refine wp_region_any (by kernel_rfl) ?_
  (try (change wpAny _ _ _ _ _ _ _ (World.drew _)))
  (refine wpAny_take (i := 0) (v := ?_) rfl (by kernel_rfl) (by kernel_rfl) (by kernel_rfl) (fun _ _ _ h => h) (Or.inl ⟨by rfl, ?_⟩) ?_; rotate_left; (· (intro W; go_simp; (try with_reducible rfl))); (try go_simp))
  (refine wpAny_take (i := 1) (v := ?_) rfl (by kernel_rfl) (by kernel_rfl) (by kernel_rfl) (fun _ _ _ h => h) (Or.inl ⟨by rfl, ?_⟩) ?_; rotate_left; (· (intro W; go_simp; (try with_reducible rfl))); (try go_simp))
  (try rw [h0])
  (refine wpAny_take (i := 2) (v := ?_) rfl (by kernel_rfl) (by kernel_rfl) (by kernel_rfl) (fun _ _ _ h => h) (Or.inl ⟨by rfl, ?_⟩) ?_; rotate_left; (· (intro W; go_simp; (try with_reducible rfl))); (try go_simp))
  (refine wpAny_take (i := 5) (v := ?_) rfl (by kernel_rfl) (by kernel_rfl) (by kernel_rfl) (fun _ _ _ h => h) (Or.inl ⟨by rfl, ?_⟩) ?_; rotate_left; (· (intro W; go_simp; (try with_reducible rfl))); (try go_simp))
  (refine wpAny_take (i := 6) (v := ?_) rfl (by kernel_rfl) (by kernel_rfl) (by kernel_rfl) (fun _ _ _ h => h) (Or.inl ⟨by rfl, ?_⟩) ?_; rotate_left; (· (intro W; go_simp; (try with_reducible rfl))); (try go_simp))
  (try rw [hwr])
  (refine wpAny_ready (rs := [3]) (by kernel_rfl) (by simp) ?_; refine AllReady.cons rfl (fun K hK => ?_) AllReady.nil)
  go_simp
  refine hK _ _ ?_
  clear hK K
  (refine wpAny_ready (rs := [4]) (by kernel_rfl) (by simp) ?_; refine AllReady.cons rfl (fun K hK => ?_) AllReady.nil)
  go_simp
  have hz1 : (strOfNums [a - 32]).size = 1 := by simp [strOfNums, ByteArray.size]
  refine hK _ _ ?_
  clear hK K
  (refine wpAny_take (i := 7) (v := ?_) rfl (by kernel_rfl) (by kernel_rfl) (by kernel_rfl) (fun _ _ _ h => h) (Or.inl ⟨by rfl, ?_⟩) ?_; rotate_left; (· (intro W; go_simp; (try with_reducible rfl))); (try go_simp))
  (refine wpAny_take (i := 8) (v := ?_) rfl (by kernel_rfl) (by kernel_rfl) (by kernel_rfl) (fun _ _ _ h => h) (Or.inl ⟨by rfl, ?_⟩) ?_; rotate_left; (· (intro W; go_simp; (try with_reducible rfl))); (try go_simp))
  refine wpAny_done (by kernel_rfl) ?_ _
  go_wp2
  go_ret
  exact ⟨by rw [← hx2]; rfl, ((Below.refl w.heap.size w).alloc (Nat.le_refl _) _).drew⟩
end Go.Proofs.Ytjiofcnlibkhkaa
