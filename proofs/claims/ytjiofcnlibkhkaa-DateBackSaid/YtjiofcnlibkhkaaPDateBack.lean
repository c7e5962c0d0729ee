/- What is laid is read; days that follow each other are 86400 seconds apart, and of days of the week that follow each other (statement DateBack). No condition. -/
import Derived.Test.YtjiofcnlibkhkaaRows
import Derived.WalkKit
import Derived.ProofKit
import Derived.HandedShaped
import Derived.OpenShut
import Derived.ShutString
import Derived.ChangeOld
import Derived.Below
import Derived.Deep.Fields
import Derived.Test.Ytjiofcnlibkhkaa47LD
namespace Go.Proofs.Ytjiofcnlibkhkaa.dateBack
open Go.ChangeShapes Go.WideShapes Go.ChangeAt Go.RowKit
set_option linter.unusedVariables false

theorem own : ownKnob Try.prog.godebug = none := by kernel_rfl
theorem laidOut : laidOutB Try.prog = true := by kernel_rfl

/-- a struct whose fields are ints, by value: each of its cells is an int -/
theorem open_ints_agg {H : Type} {enc : TypeId × Value → H} {P : Program} {w : World} {base : Nat} {spare : Nat → Bool} {held : Bool} {r : Reach} {b0 : Nat} {t I : TypeId} {fs : Array Field} {v : Value} {d : DataW H} {p : List MemPlace}
    (hs : P.underlying t = some (.struct fs)) (hone : Go.Deep.oneCellFields P fs = true) (hI : P.underlying I = some (.int .i64)) (hall : (fs.toList.all fun f => f.type == I) = true) (hC : P.cellsOf t = fs.size)
    (hv : Value.okWide P w r b0 t v) (h : DataW.Trod enc P w base spare held t v d p) : ∃ cs : Array Value, v = .agg cs ∧ cs.size = fs.size ∧ ∀ j, j < fs.size → ∃ n, cs[j]? = some (.int .i64 n) := by
  obtain ⟨cs, rfl, hsz⟩ := okWide_struct hs hv
  obtain ⟨fuel, hf⟩ := h
  obtain ⟨xs, n, _, _, hcl, hlen, hg⟩ := DataW.trod_struct hs hf
  refine ⟨cs, rfl, hsz.trans hC, fun j hj => ?_⟩
  have hfj : fs[j]? = some fs[j] := Array.getElem?_eq_getElem hj
  obtain ⟨o, k⟩ := Go.Deep.hone_of hone j _ hfj
  have h1 := hg j _ hfj
  rw [o, k] at h1
  have hjx : j < xs.length := by omega
  rw [List.getElem?_eq_getElem hjx] at h1
  have ht : fs[j].type = I := by
    have := List.all_eq_true.1 hall fs[j] (Array.mem_toList_iff.2 (Array.getElem_mem hj))
    simpa using this
  rw [ht] at h1
  obtain ⟨m, hm, _⟩ := DataW.trod_int hI h1
  have hjc : j < cs.size := by omega
  refine ⟨m, ?_⟩
  have e : (cs.toList.drop j).take 1 = [cs[j]] := by
    rw [List.drop_eq_getElem_cons (by simpa using hjc)]
    simp
  have hm2 : (cs.toList.drop j).take 1 = [.int .i64 m] := hm
  rw [e] at hm2
  injection hm2 with hm2 _
  rw [Array.getElem?_eq_getElem hjc, hm2]

/-- seven cells, each an int -/
theorem seven {cs : Array Value} (hz : cs.size = 7) (hcs : ∀ j, j < 7 → ∃ n, cs[j]? = some (.int .i64 n)) : ∃ a0 a1 a2 a3 a4 a5 a6 : Int, cs = #[.int .i64 a0, .int .i64 a1, .int .i64 a2, .int .i64 a3, .int .i64 a4, .int .i64 a5, .int .i64 a6] := by
  obtain ⟨a0, h0⟩ := hcs 0 (by decide)
  obtain ⟨a1, h1⟩ := hcs 1 (by decide)
  obtain ⟨a2, h2⟩ := hcs 2 (by decide)
  obtain ⟨a3, h3⟩ := hcs 3 (by decide)
  obtain ⟨a4, h4⟩ := hcs 4 (by decide)
  obtain ⟨a5, h5⟩ := hcs 5 (by decide)
  obtain ⟨a6, h6⟩ := hcs 6 (by decide)
  refine ⟨a0, a1, a2, a3, a4, a5, a6, ?_⟩
  apply Array.ext'
  apply List.ext_getElem?
  intro j
  rw [Array.getElem?_toList]
  by_cases hj : j < 7
  · have : j = 0 ∨ j = 1 ∨ j = 2 ∨ j = 3 ∨ j = 4 ∨ j = 5 ∨ j = 6 := by omega
    rcases this with rfl | rfl | rfl | rfl | rfl | rfl | rfl
    · exact h0
    · exact h1
    · exact h2
    · exact h3
    · exact h4
    · exact h5
    · exact h6
  · rw [Array.getElem?_eq_none (by omega), List.getElem?_eq_none (by show 7 ≤ j; omega)]

/- the walk -/
theorem walk (a0 a1 a2 a3 a4 a5 a6 : Int) (w : World) (hM : MaxL w) : Calls Try.prog 6 #[.agg #[.int .i64 a0, .int .i64 a1, .int .i64 a2, .int .i64 a3, .int .i64 a4, .int .i64 a5, .int .i64 a6]] w fun e w' => e = .returned (.bool true) ∧ Below w.heap.size w w' := by
  exact law_DateBack hM

/- the row -/
set_option maxRecDepth 100000 in
set_option maxHeartbeats 2000000 in
theorem lifted (os : Os) (started : os.Started) (H : Type) (enc : TypeId × Value → H) :
    ReturnsInHanded {} Try.checked os 6 .any (Rows.dateBackSpec.pre6 enc Try.prog Try.f6 Rows.dateBackRow.domain false) (Rows.dateBackSpec.post enc Try.prog Try.f6 false true false false) := by
  refine returnsInHanded_of_change_shaped (C := Try.checked) own started (by kernel_rfl) Try.func6
    (ChangeSpec.witness6 (enc := enc) (C := Try.checked) false ⟨#[], #[.agg #[.int .i64 0, .int .i64 0, .int .i64 0, .int .i64 0, .int .i64 0, .int .i64 0, .int .i64 0]], []⟩ 8 (by kernel_rfl) (by kernel_rfl) (by kernel_rfl) (by kernel_rfl)) ?_
  intro W base args ds gs before hval0 hW hcnd _ hsh _
  have hval : ∀ (j : Nat) t v, Try.f6.params[j]? = some t → args[j]? = some v → Value.okWide Try.prog W .any base t v := hval0
  have hW' := hW
  obtain ⟨p, q, hA0, hV, rfl, hfz, hnd⟩ := hW
  have hA : DataW.TrodAll enc Try.prog W 0 (fun _ => true) true Try.f6.params.toList args.toList ds p := hA0
  rw [Try.params6] at hA hval
  obtain ⟨v0, vs0, d0, ds0, p0, q0, hargs, rfl, rfl, h0, r0⟩ := trodAll_cons hA
  obtain ⟨rfl, rfl, rfl⟩ := trodAll_nil r0
  obtain rfl : args = #[v0] := by cases args; simp_all
  obtain ⟨rfl, rfl⟩ := trodVars_none hV
  have k0 := h0
  have lt0 : ∀ x ∈ p0, x.block < W.heap.size := by obtain ⟨m, hm⟩ := k0; exact DataW.trod_lt m _ _ _ hm
  obtain ⟨cs, rfl, hsz, hcs⟩ := open_ints_agg Try.underlying28 (by kernel_rfl) Try.underlying3 (by kernel_rfl) (by kernel_rfl) (hval 0 28 v0 rfl rfl) h0
  obtain ⟨a0, a1, a2, a3, a4, a5, a6, rfl⟩ := seven hsz hcs
  clear hA0 hval0 hcs hsz
  have hM : MaxL W := Try.laysM143.s1_3 W hsh
  refine (walk a0 a1 a2 a3 a4 a5 a6 W hM).mono fun e W' ⟨he, bel⟩ => ?_
  subst he
  exact ⟨_, rfl, _, _, _, [], _, [], hW', trodAll_mk1 (shut_bool Try.underlying4 _), (trodAll_cons_mk (Below.trod laidOut (by kernel_rfl) (of_decide_eq_true (by kernel_rfl)) k0 bel lt0) trodAll_mk0), rfl, bel.frame _, fun h => by cases h⟩

theorem over : Rows.dateBackRow.holds Try.pinned (OpenSpec.ofChange Rows.dateBackSpec) :=
  OpenClaim.holds_of_wide 6 Try.f6 rfl rfl rfl rfl rfl rfl rfl ⟨rfl, rfl, rfl, rfl, rfl⟩ rfl rfl rfl rfl rfl (by kernel_rfl) Try.func6 (by kernel_rfl)
    (of_decide_eq_true (by kernel_rfl)) (by unfold Func.isWrapper; first | (rw [if_pos (by decide +kernel)]; kernel_rfl) | (rw [if_neg (by decide +kernel)]; exact ⟨rfl, rfl⟩))
    (fun os started H enc _ => lifted os started H enc)

/- the statement -/
theorem proved : Rows.DateBackSaid := over
#print axioms proved
end Go.Proofs.Ytjiofcnlibkhkaa.dateBack
