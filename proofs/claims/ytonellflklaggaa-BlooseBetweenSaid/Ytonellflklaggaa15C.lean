/- Layer 15 (bloose): digits taken, by the program. Conditions: the argument reads as a list; lengths at most 2^24. -/
import Derived.Test.Ytonellflklaggaa15B
namespace Go.Proofs.Ytonellflklaggaa
open Go.RowKit Go.Shelf
attribute [local go_sem] Oper.semAt_some

theorem isD_wf {x : Int} (h : isD x = true) : (Lit.int .u8 x).wf = true := by
  unfold isD at h
  have := of_decide_eq_true h
  exact wf_u8.2 (by omega)
theorem filter_wf (xs : List Int) : ∀ x ∈ xs.filter isD, (Lit.int .u8 x).wf = true := fun _ hx => isD_wf (List.mem_filter.1 hx).2
theorem fil_yes {pre : List Int} {x : Int} (h : isD x = true) : (pre ++ [x]).filter isD = pre.filter isD ++ [x] := by simp [List.filter_append, h]
theorem fil_no {pre : List Int} {x : Int} (h : isD x = false) : (pre ++ [x]).filter isD = pre.filter isD := by simp [List.filter_append, h]

set_option maxRecDepth 100000 in
set_option maxHeartbeats 2000000 in
theorem p15_Digits {A m c xs} {w : World} (hs : Sl w .u8 A m c xs) (hm : m ≤ 16777216) : Calls Try.prog 31 #[.slice A m c] w (RetOwn id 5 .u8 (digF xs) w) := by
  have hpl := preE_len xs
  rw [hs.len] at hpl
  refine (callsIn_wide (n := 5)).1 ?_
  refine callsIn_of_wp_marks Try.func31 rfl trivial ?_ rfl
  simp only [Try.ntmps31, List.size_toArray, List.length_cons, List.length_nil, Nat.reduceAdd, Nat.reduceSub, Array.replicate_succ, Array.replicate_zero, List.push_toArray, List.append_toArray, List.nil_append, List.cons_append]
  gi_wp2_with (refine ⟨trivial, ?_⟩; gi_at_call 58; refine (callsIn_wide.2 p15_each).mono ?_; rintro e w' ⟨rfl, rfl⟩)
  have bO := Boxed.new w 28 (.slice none 0 0)
  have bN := Boxed.new (w.alloc (.cells #[.slice none 0 0] 28)) 28 (.slice A m c)
  rw [World.size_alloc] at bN
  have hB0 : Below w.heap.size w ((w.alloc (.cells #[.slice none 0 0] 28)).alloc (.cells #[.slice A m c] 28)) := ((Below.refl _ w).alloc (Nat.le_refl _) _).alloc (by simp) _
  refine wpIn_rangeFunc_ownG rfl (by decide) (gf := 66) (lb := #[.pointer (some ⟨w.heap.size + 1, 0, none⟩)]) rfl trivial (enters_of Try.func66 (by kernel_rfl) rfl)
    (p15_stops 4 (by decide) (w.heap.size + 1) w.heap.size _ (by simp) (by simp; omega) bN.cell w (Nat.le_refl _) hB0 hs) belowK_t (belowK_b (by simp; omega)) (Below.refl _ _) (fun _ => rfl)
    (fun pre W => (∃ v, Boxed W w.heap.size 28 v ∧ W.ownsRow w.heap.size 5 1 v (pre.filter isD).length ((pre.filter isD).map (Value.int .u8)) ∧ True) ∧ Below w.heap.size w W) (fun _ _ _ => False)
    (OwnFrom.and (Go.Own.from (holdsRow_own w.heap.size w.heap.size 28 5 1 (fun pre : List Int => (pre.filter isD).length) (fun pre : List Int => (pre.filter isD).map (Value.int .u8)) (fun _ _ => True)) _) (ownFrom_below (Nat.le_refl _) (by simp; omega)))
    (fun _ _ _ _ _ hs _ _ => hs)
    ⟨⟨_, bO.alloc _, World.ownsRow_nil _ _ _ _, trivial⟩, hB0⟩
    (fun x => { tmps := #[.slice A m c, undef, .slice none 0 0, .pointer (some ⟨w.heap.size, 0, none⟩), .int .u8 x, .int .i64 (numE x), .slice A m c, .func (.func 66) #[] #[.pointer (some ⟨w.heap.size + 1, 0, none⟩)], .int .u8 x, .int .i64 (numE x), undef, undef, undef, undef, undef, undef, undef], defers := [] }) ?assign ?body ?done ?stop
  case assign =>
    intro l x W K hK
    gi_wp2
    exact hK
  case body =>
    rintro l pre x W ⟨⟨v, hb, hrow, _⟩, hB⟩ hlt
    have hc := hb.cell
    have hf := hb.frozen
    have hfl := List.length_filter_le isD pre
    cases hd : isD x with
    | true =>
      have hv := val_bd x
      have hnn : 0 ≤ numE x := by rw [numE_yes hd]; omega
      have HN := Lib.hid (fil_yes (pre := pre) hd)
      have ho : Own W w.heap.size 5 .u8 v (pre.filter isD) := ⟨hrow, filter_wf pre⟩
      have hwf := isD_wf hd
      obtain ⟨ys, hys⟩ : ∃ ys, pre.filter isD = ys := ⟨_, rfl⟩
      rw [hys] at ho hrow hfl HN
      have hz := hB.size
      clear hd hv hys
      gi_wp2_with (gi_at_builtin; refine wpListIn_app rfl rfl eltB (by decide) rfl rfl (ho.alloc _) (Sl.one W .u8 5 x hwf) (by simp; omega) (by omega) ?_; intro v' w1 ho1 hg1; have h5 := ho1.1; rw [List.length_append] at h5; obtain ⟨g', cap', rfl⟩ := ownsRow_succ (k := ys.length) h5; obtain ⟨hv1, hv2, hr2, hk2, hb2⟩ := hb.appended (by decide) hrow hz (Nat.le_refl _) h5 hg1; have hc1 := hv1.cell; have hf1 := hv1.frozen)
      exact ⟨hk2.from _, hb2, ⟨_, hv2, by rw [HN.out, List.length_append]; exact hr2, trivial⟩, hB.trans hb2⟩
    | false =>
      have hnn : numE x < 0 := by rw [numE_no hd]; decide
      have HN := Lib.hid (fil_no (pre := pre) hd)
      clear hd
      gi_wp2
      exact ⟨KeepsFrom.refl _ _, Below.refl _ _, ⟨_, hb, by rw [HN.out]; exact hrow, trivial⟩, hB⟩
  case done =>
    rintro D ys W hD rfl ⟨⟨v, hb, hrow, _⟩, hB⟩ hK
    have hc := hb.cell
    gi_wp2
    refine ⟨by simp, .inl ⟨_, _, rfl, run_takeDeferred hK, ?_⟩⟩
    refine ⟨_, results_tmp rfl _ _ _, v, rfl, ⟨?_, ?_⟩, hB.trans (belowK_b (w := w) (Nat.le_refl _) W D _ _ (by simp at hD; omega) hK rfl rfl)⟩
    · rw [digF_pre]; exact ownsRow_putObj hrow _ hK rfl
    · rw [digF_pre]; exact filter_wf _
  case stop =>
    rintro D c pre W _ _ h _
    exact h.elim
end Go.Proofs.Ytonellflklaggaa
