/- Layer 15 (bloose): what is counted and read loosely, by the program. Conditions: the argument reads as a list. -/
import Derived.Test.Ytonellflklaggaa15
namespace Go.Proofs.Ytonellflklaggaa
open Go.RowKit Go.Shelf
attribute [local go_sem] Oper.semAt_some

theorem numE_yes {x : Int} (h : isD x = true) : numE x = valL x := by unfold numE; rw [h]; rfl
theorem numE_no {x : Int} (h : isD x = false) : numE x = -1 := by unfold numE; rw [h]; rfl
/-- how many octets are no digits -/
def noN (xs : List Int) : Int := ((xs.filter fun x => !isD x).length : Int)
theorem noN_le (xs : List Int) : 0 ≤ noN xs ∧ noN xs ≤ xs.length := by
  have := List.length_filter_le (fun x => !isD x) xs
  unfold noN; omega
theorem noN_yes {pre : List Int} {x : Int} (h : isD x = true) : noN (pre ++ [x]) = noN pre := by simp [noN, List.filter_append, h]
theorem noN_no {pre : List Int} {x : Int} (h : isD x = false) : noN (pre ++ [x]) = noN pre + 1 := by simp [noN, List.filter_append, h]

set_option maxRecDepth 100000 in
set_option maxHeartbeats 2000000 in
theorem p15_Strange {A m c xs} {w : World} (hs : Sl w .u8 A m c xs) : Calls Try.prog 36 #[.slice A m c] w (RetB (.int .i64 (strF xs)) w) := by
  have hcm := hs.cm
  have hle := hs.le
  unfold maxLen at hcm
  have hpl := preE_len xs
  rw [hs.len] at hpl
  refine (callsIn_wide (n := 5)).1 ?_
  refine callsIn_of_wp_marks Try.func36 rfl trivial ?_ rfl
  simp only [Try.ntmps36, List.size_toArray, List.length_cons, List.length_nil, Nat.reduceAdd, Nat.reduceSub, Array.replicate_succ, Array.replicate_zero, List.push_toArray, List.append_toArray, List.nil_append, List.cons_append]
  gi_wp2_with (refine ⟨trivial, ?_⟩; gi_at_call 58; refine (callsIn_wide.2 p15_each).mono ?_; rintro e w' ⟨rfl, rfl⟩)
  have bS := Boxed.new w 3 (.int .i64 0)
  have bN := Boxed.new (w.alloc (.cells #[.int .i64 0] 3)) 28 (.slice A m c)
  rw [World.size_alloc] at bN
  have hB0 : Below w.heap.size w ((w.alloc (.cells #[.int .i64 0] 3)).alloc (.cells #[.slice A m c] 28)) := ((Below.refl _ w).alloc (Nat.le_refl _) _).alloc (by simp) _
  refine wpIn_rangeFunc_ownG rfl (by decide) (gf := 66) (lb := #[.pointer (some ⟨w.heap.size + 1, 0, none⟩)]) rfl trivial (enters_of Try.func66 (by kernel_rfl) rfl)
    (p15_stops 4 (by decide) (w.heap.size + 1) w.heap.size _ (by simp) (by simp; omega) bN.cell w (Nat.le_refl _) hB0 hs) belowK_t (belowK_b (by simp; omega)) (Below.refl _ _) (fun _ => rfl)
    (fun pre W => Boxed W w.heap.size 3 (.int .i64 (noN pre)) ∧ Below w.heap.size w W) (fun _ _ _ => False)
    (OwnFrom.and (Go.Own.from (boxed_own w.heap.size 3 (fun pre => .int .i64 (noN pre))) _) (ownFrom_below (Nat.le_refl _) (by simp; omega)))
    (fun _ _ _ _ _ hs _ _ => hs)
    ⟨bS.alloc _, hB0⟩
    (fun x => { tmps := #[.slice A m c, undef, .int .i64 0, .pointer (some ⟨w.heap.size, 0, none⟩), undef, .int .i64 (numE x), .slice A m c, .func (.func 66) #[] #[.pointer (some ⟨w.heap.size + 1, 0, none⟩)], .int .u8 x, .int .i64 (numE x), undef, undef, undef, undef, undef], defers := [] }) ?assign ?body ?done ?stop
  case assign =>
    intro l x W K hK
    gi_wp2
    exact hK
  case body =>
    rintro l pre x W ⟨hb, hB⟩ hlt
    have hc := hb.cell
    have hf := hb.frozen
    have hn := noN_le pre
    obtain ⟨hn0, hn1⟩ := hn
    have hwr : wrap64 (noN pre + 1) = noN pre + 1 := by unfold wrap64; omega
    cases hd : isD x with
    | true =>
      have hv := val_bd x
      have hnn : ¬ numE x < 0 := by rw [numE_yes hd]; omega
      have HN := Lib.hid (noN_yes (pre := pre) hd)
      clear hd hv
      gi_wp2
      exact ⟨KeepsFrom.refl _ _, Below.refl _ _, by rw [HN.out]; exact hb, hB⟩
    | false =>
      have hnn : numE x < 0 := by rw [numE_no hd]; decide
      have HN := Lib.hid (noN_no (pre := pre) hd)
      clear hd
      gi_wp2
      exact ⟨(KeepsOthers.setCell _ _ _).from _, (Below.refl w.heap.size W).setCell (p := ⟨w.heap.size, 0, none⟩) (Nat.le_refl _) _, by rw [HN.out]; exact hb.set _, hB.setCell (p := ⟨w.heap.size, 0, none⟩) (Nat.le_refl _) _⟩
  case done =>
    rintro D ys W hD rfl ⟨hb, hB⟩ hK
    have hc := hb.cell
    gi_wp2
    refine ⟨by simp, .inl ⟨_, _, rfl, run_takeDeferred hK, ?_⟩⟩
    refine ⟨_, results_tmp rfl _ _ _, ?_⟩
    refine ⟨?_, hB.trans (belowK_b (w := w) (Nat.le_refl _) W D _ _ (by simp at hD; omega) hK rfl rfl)⟩
    rw [strF_pre]; rfl
  case stop =>
    rintro D c pre W _ _ h _
    exact h.elim
end Go.Proofs.Ytonellflklaggaa
