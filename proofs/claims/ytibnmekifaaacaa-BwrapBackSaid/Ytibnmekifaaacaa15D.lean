/- Layer 15 (bloose): octets read loosely, by the program. Conditions: the argument reads as a list; lengths at most 2^24. -/
import Derived.Test.Ytibnmekifaaacaa15C
import Derived.Deep.QuietTactic
namespace Go.Proofs.Ytibnmekifaaacaa
open Go.RowKit Go.Shelf
attribute [local go_sem] Oper.semAt_some

/-- what stands after so many octets: the octets read, what is held, how many bits -/
def GR (pre : List Int) (t : List Int × Int × Int) : Prop :=
  ((t.2.2 = 0 ∧ t.2.1 = 0) ∨ (t.2.2 = 2 ∧ 0 ≤ t.2.1 ∧ t.2.1 < 4) ∨ (t.2.2 = 4 ∧ 0 ≤ t.2.1 ∧ t.2.1 < 16) ∨ (t.2.2 = 6 ∧ 0 ≤ t.2.1 ∧ t.2.1 < 64)) ∧ (∀ y ∈ t.1, (Lit.int .u8 y).wf = true) ∧ t.1.length ≤ pre.length ∧
  ∀ rest, (readS (pre.filter isD ++ rest) 0 0).1 = t.1 ++ (readS rest t.2.1 t.2.2).1 ∧ (readS (pre.filter isD ++ rest) 0 0).2 = (readS rest t.2.1 t.2.2).2
theorem GR.start : GR [] ([], 0, 0) := ⟨.inl ⟨rfl, rfl⟩, by simp, by simp, fun _ => ⟨rfl, rfl⟩⟩
theorem GR.no {pre : List Int} {t} {x : Int} (h : GR pre t) (hd : isD x = false) : GR (pre ++ [x]) t := by
  obtain ⟨h1, h2, h3, h4⟩ := h
  exact ⟨h1, h2, by rw [List.length_append]; omega, by rw [fil_no hd]; exact h4⟩
theorem GR.s0 {pre ys : List Int} {x : Int} (h : GR pre (ys, 0, 0)) (hd : isD x = true) : GR (pre ++ [x]) (ys, valL x, 6) := by
  obtain ⟨_, h2, h3, h4⟩ := h
  simp only at h3
  have hv := val_bd x
  refine ⟨.inr (.inr (.inr ⟨rfl, hv.1, hv.2⟩)), h2, by simp only [List.length_append]; omega, fun rest => ?_⟩
  obtain ⟨e1, e2⟩ := h4 (x :: rest)
  rw [fil_yes hd, List.append_assoc, List.singleton_append, e1, e2]
  exact ⟨by simp [readS], by simp [readS]⟩
theorem GR.s2 {pre ys : List Int} {x h0 z : Int} (h : GR pre (ys, h0, 2)) (hd : isD x = true) (hz : h0 * 64 + valL x = z) (hw : 0 ≤ z ∧ z < 256) : GR (pre ++ [x]) (ys ++ [z], 0, 0) := by
  obtain ⟨_, h2, h3, h4⟩ := h
  subst hz
  refine ⟨.inl ⟨rfl, rfl⟩, ?_, by simp only [List.length_append, List.length_cons, List.length_nil] at h3 ⊢; omega, fun rest => ?_⟩
  · intro y hy
    rcases List.mem_append.1 hy with h5 | h5
    · exact h2 y h5
    · simp only [List.mem_singleton] at h5; subst h5; exact wf_u8.2 (by omega)
  · obtain ⟨e1, e2⟩ := h4 (x :: rest)
    rw [fil_yes hd, List.append_assoc, List.singleton_append, e1, e2]
    exact ⟨by simp [readS], by simp [readS]⟩
theorem GR.s4 {pre ys : List Int} {x h0 z : Int} (h : GR pre (ys, h0, 4)) (hd : isD x = true) (hz : h0 * 64 + valL x = z) (hw : 0 ≤ z ∧ z < 1024) : GR (pre ++ [x]) (ys ++ [z / 4], z % 4, 2) := by
  obtain ⟨_, h2, h3, h4⟩ := h
  subst hz
  refine ⟨.inr (.inl ⟨rfl, by show 0 ≤ _ % 4; omega, by show _ % 4 < 4; omega⟩), ?_, by simp only [List.length_append, List.length_cons, List.length_nil] at h3 ⊢; omega, fun rest => ?_⟩
  · intro y hy
    rcases List.mem_append.1 hy with h5 | h5
    · exact h2 y h5
    · simp only [List.mem_singleton] at h5; subst h5; exact wf_u8.2 (by omega)
  · obtain ⟨e1, e2⟩ := h4 (x :: rest)
    rw [fil_yes hd, List.append_assoc, List.singleton_append, e1, e2]
    exact ⟨by simp [readS], by simp [readS]⟩
theorem GR.s6 {pre ys : List Int} {x h0 z : Int} (h : GR pre (ys, h0, 6)) (hd : isD x = true) (hz : h0 * 64 + valL x = z) (hw : 0 ≤ z ∧ z < 4096) : GR (pre ++ [x]) (ys ++ [z / 16], z % 16, 4) := by
  obtain ⟨_, h2, h3, h4⟩ := h
  subst hz
  refine ⟨.inr (.inr (.inl ⟨rfl, by show 0 ≤ _ % 16; omega, by show _ % 16 < 16; omega⟩)), ?_, by simp only [List.length_append, List.length_cons, List.length_nil] at h3 ⊢; omega, fun rest => ?_⟩
  · intro y hy
    rcases List.mem_append.1 hy with h5 | h5
    · exact h2 y h5
    · simp only [List.mem_singleton] at h5; subst h5; exact wf_u8.2 (by omega)
  · obtain ⟨e1, e2⟩ := h4 (x :: rest)
    rw [fil_yes hd, List.append_assoc, List.singleton_append, e1, e2]
    exact ⟨by simp [readS], by simp [readS]⟩
theorem readS_many : ∀ (L : List Int) (h m : Int), (m = 0 ∨ m = 2 ∨ m = 4 ∨ m = 6) → (readS L h m).2.2 = (m + 6 * L.length) % 8
  | [], h, m, hm => by show m = _; simp only [List.length_nil]; omega
  | x :: r, h, m, hm => by
    have hl : ((x :: r).length : Int) = r.length + 1 := by simp
    rw [hl]
    unfold readS
    rcases hm with rfl | rfl | rfl | rfl
    · rw [if_pos rfl, readS_many r _ 6 (by omega)]; omega
    · rw [if_neg (by decide), if_pos rfl]; show (readS r 0 0).2.2 = _; rw [readS_many r _ 0 (by omega)]; omega
    · rw [if_neg (by decide), if_neg (by decide), if_pos rfl]; show (readS r _ 2).2.2 = _; rw [readS_many r _ 2 (by omega)]; omega
    · rw [if_neg (by decide), if_neg (by decide), if_neg (by decide)]; show (readS r _ 4).2.2 = _; rw [readS_many r _ 4 (by omega)]; omega
theorem GR.fin {xs : List Int} {t} (h : GR (preE xs) t) : t.1 = lrdL xs ∧ t.2.2 = leftL xs := by
  obtain ⟨_, _, _, h4⟩ := h
  obtain ⟨e1, e2⟩ := h4 []
  rw [List.append_nil] at e1 e2
  have r1 := (readS_eq ((preE xs).filter isD)).1
  have r2 := readS_many ((preE xs).filter isD) 0 0 (by omega)
  have e3 : (readS [] t.2.1 t.2.2) = ([], t.2.1, t.2.2) := rfl
  rw [e3] at e1 e2
  rw [e1, List.append_nil] at r1
  rw [e2] at r2
  refine ⟨by rw [r1, lrdL, digF_pre], ?_⟩
  show t.2.2 = _
  simp only at r2
  rw [r2, leftL, digF_pre]; push_cast; omega

/-- what the three variables hold -/
def RdI (B : Nat) (pre : List Int) (W : World) : Prop :=
  ∃ t : List Int × Int × Int, GR pre t ∧ (∃ v, Boxed W B 22 v ∧ W.ownsRow B 5 1 v t.1.length (t.1.map (Value.int .u8)) ∧ True) ∧ Boxed W (B + 1) 3 (.int .i64 t.2.1) ∧ Boxed W (B + 1 + 1) 3 (.int .i64 t.2.2)
theorem RdI.own (B : Nat) : Go.Own (RdI B) := fun s W W' row ⟨t, hg, h1, h2, h3⟩ hgr hr =>
  ⟨t, hg, holdsRow_own B B 22 5 1 (fun t : List Int => t.length) (fun t => t.map (Value.int .u8)) (fun _ _ => True) t.1 W W' row h1 hgr hr, boxed_own (B + 1) 3 (fun i : Int => .int .i64 i) t.2.1 W W' row h2 hgr hr, boxed_own (B + 1 + 1) 3 (fun i : Int => .int .i64 i) t.2.2 W W' row h3 hgr hr⟩

theorem drewB {W : World} {B : Nat} {t : TypeId} {v : Value} (h : Boxed W B t v) : Boxed W.drew B t v := h
theorem three_set {W : World} {B k : Nat} {v : Value} {xs : List Value} {h0 q z q1 q2 : Value} (hb0 : Boxed W B 22 v) (hb1 : Boxed W (B + 1) 3 h0) (hb2 : Boxed W (B + 1 + 1) 3 q) (hrow : W.ownsRow B 5 1 v k xs) :
    ∃ W3, ((W.setCell ⟨B + 1, 0, none⟩ z).setCell ⟨B + 1 + 1, 0, none⟩ q1).setCell ⟨B + 1 + 1, 0, none⟩ q2 = W3 ∧ Boxed W3 B 22 v ∧ Boxed W3 (B + 1) 3 z ∧ Boxed W3 (B + 1 + 1) 3 q2 ∧ W3.ownsRow B 5 1 v k xs ∧ KeepsOthers W W3 ∧ Below B W W3 ∧ W3.heap.size = W.heap.size := by
  refine ⟨_, rfl, ?_, ?_, ?_, ?_, ?_, ?_, ?_⟩
  · exact ((hb0.other (by omega) _).other (by omega) _).other (by omega) _
  · exact ((hb1.set _).other (by omega) _).other (by omega) _
  · exact ((hb2.other (by omega) _).set _).set _
  · have n1 : v.ownBlock = none ∨ v.ownBlock ≠ some (B + 1) := .inr (fun e => hb1.not_row (by decide) hrow e.symm)
    have n2 : v.ownBlock = none ∨ v.ownBlock ≠ some (B + 1 + 1) := .inr (fun e => hb2.not_row (by decide) hrow e.symm)
    exact ((hrow.kept (grownBy_setCell' _ _ _) n1).kept (grownBy_setCell' _ _ _) n2).kept (grownBy_setCell' _ _ _) n2
  · exact ((KeepsOthers.setCell _ _ _).trans (KeepsOthers.setCell _ _ _)).trans (KeepsOthers.setCell _ _ _)
  · exact (((Below.refl B W).setCell (p := ⟨B + 1, 0, none⟩) (by simp) _).setCell (p := ⟨B + 1 + 1, 0, none⟩) (by simp; omega) _).setCell (p := ⟨B + 1 + 1, 0, none⟩) (by simp; omega) _
  · simp

set_option maxRecDepth 100000 in
set_option maxHeartbeats 4000000 in
theorem p15_read {A m c xs} {w : World} (hs : Sl w .u8 A m c xs) (hm : m ≤ 16777216) : Calls Try.prog 40 #[.slice A m c] w (RetOwn (fun v => .tuple #[v, .int .i64 (leftL xs)]) 5 .u8 (lrdL xs) w) := by
  have hpl := preE_len xs
  rw [hs.len] at hpl
  refine (callsIn_wide (n := 5)).1 ?_
  refine callsIn_of_wp_marks Try.func40 rfl trivial ?_ rfl
  simp only [Try.ntmps40, List.size_toArray, List.length_cons, List.length_nil, Nat.reduceAdd, Nat.reduceSub, Array.replicate_succ, Array.replicate_zero, List.push_toArray, List.append_toArray, List.nil_append, List.cons_append]
  gi_wp2_with (refine ⟨trivial, ?_⟩; gi_at_call 49; refine (callsIn_wide.2 p15_each).mono ?_; rintro e w' ⟨rfl, rfl⟩)
  have w0 := Boxed.new w 22 (.slice none 0 0)
  have w1 := Boxed.new (w.alloc (.cells #[.slice none 0 0] 22)) 3 (.int .i64 0)
  have w2 := Boxed.new ((w.alloc (.cells #[.slice none 0 0] 22)).alloc (.cells #[.int .i64 0] 3)) 3 (.int .i64 0)
  have w3 := Boxed.new (((w.alloc (.cells #[.slice none 0 0] 22)).alloc (.cells #[.int .i64 0] 3)).alloc (.cells #[.int .i64 0] 3)) 22 (.slice A m c)
  simp only [World.size_alloc] at w1 w2 w3
  have v0 := ((w0.alloc (.cells #[.int .i64 0] 3)).alloc (.cells #[.int .i64 0] 3)).alloc (.cells #[.slice A m c] 22)
  have v1 := (w1.alloc (.cells #[.int .i64 0] 3)).alloc (.cells #[.slice A m c] 22)
  have v2 := w2.alloc (.cells #[.slice A m c] 22)
  have hB0 := ((((Below.refl _ w).alloc (Nat.le_refl _) (.cells #[.slice none 0 0] 22)).alloc (by simp) (.cells #[.int .i64 0] 3)).alloc (by simp; omega) (.cells #[.int .i64 0] 3)).alloc (by simp; omega) (.cells #[.slice A m c] 22)
  have hsz : ((((w.alloc (.cells #[.slice none 0 0] 22)).alloc (.cells #[.int .i64 0] 3)).alloc (.cells #[.int .i64 0] 3)).alloc (.cells #[.slice A m c] 22)).heap.size = w.heap.size + 4 := by simp
  refine wpIn_rangeFunc_ownG rfl (by decide) (gf := 59) (lb := #[.pointer (some ⟨w.heap.size + 1 + 1 + 1, 0, none⟩)]) rfl trivial (enters_of Try.func59 (by kernel_rfl) rfl)
    (p15_stops 4 (by decide) (w.heap.size + 1 + 1 + 1) w.heap.size _ (by rw [hsz]; omega) (by rw [hsz]; omega) w3.cell w (Nat.le_refl _) hB0 hs) belowK_t (belowK_b (by rw [hsz]; omega)) (Below.refl _ _) (fun _ => rfl)
    (fun pre W => RdI w.heap.size pre W ∧ Below w.heap.size w W) (fun _ _ _ => False)
    (OwnFrom.and (Go.Own.from (RdI.own w.heap.size) _) (ownFrom_below (Nat.le_refl _) (by rw [hsz]; omega)))
    (fun _ _ _ _ _ hs _ _ => hs)
    ⟨⟨([], 0, 0), GR.start, ⟨_, v0, World.ownsRow_nil _ _ _ _, trivial⟩, v1, v2⟩, hB0⟩
    (fun x => { tmps := #[.slice A m c, undef, .slice none 0 0, .int .i64 0, .pointer (some ⟨w.heap.size, 0, none⟩), .pointer (some ⟨w.heap.size + 1, 0, none⟩), .pointer (some ⟨w.heap.size + 1 + 1, 0, none⟩), undef, .int .i64 (numE x), .slice A m c, .func (.func 59) #[] #[.pointer (some ⟨w.heap.size + 1 + 1 + 1, 0, none⟩)], .int .u8 x, .int .i64 (numE x), undef, undef, undef, undef, undef, undef, undef, undef, undef, undef, undef, undef, undef, undef, undef, undef, undef, undef, undef, undef, undef, undef, undef, undef, undef, undef], defers := [] }) ?assign ?body ?done ?stop
  case assign =>
    intro l x W K hK
    gi_wp2
    exact hK
  case body =>
    clear w0 w1 w2 w3 v0 v1 v2 hB0
    rintro l pre x W ⟨⟨⟨ys, h0, q⟩, hg, ⟨v, hb0, hrow, _⟩, hb1, hb2⟩, hB⟩ hlt
    rw [hsz]
    simp only at hrow hb1 hb2
    have hc0 := hb0.cell
    have hf0 := hb0.frozen
    have hc1 := hb1.cell
    have hf1 := hb1.frozen
    have hc2 := hb2.cell
    have hf2 := hb2.frozen
    have hz := hB.size
    cases hd : isD x with
    | true =>
      have hv := val_bd x
      have hnn : numE x = valL x := numE_yes hd
      rw [hnn]
      obtain ⟨y, hy⟩ : ∃ y, valL x = y := ⟨_, rfl⟩
      rw [hy] at hv ⊢
      obtain ⟨hv1, hv2⟩ := hv
      have hor := fun (h1 : 0 ≤ h0) (h2 : h0 < 1048576) => or_low 6 h0 y (by omega) h1 h2 hv1 (by omega)
      rw [show (2 : Int) ^ 6 = 64 from rfl] at hor
      have hq := hg.1
      simp only at hq
      have HD := Lib.hid hd; have HY := Lib.hid hy
      clear hd hy hnn
      rcases hq with ⟨rfl, rfl⟩ | ⟨rfl, hh⟩ | ⟨rfl, hh⟩ | ⟨rfl, hh⟩
      · have h0r : bits .or .i64 0 y = y := by have := hor (by decide) (by decide); simpa using this
        have HG := Lib.hid (hg.s0 HD.out)
        rw [HY.out] at HG
        clear hg hor
        gi_wp2
        have n1 : v.ownBlock = none ∨ v.ownBlock ≠ some (w.heap.size + 1) := .inr (fun e => hb1.not_row (by decide) hrow e.symm)
        have n2 : v.ownBlock = none ∨ v.ownBlock ≠ some (w.heap.size + 1 + 1) := .inr (fun e => hb2.not_row (by decide) hrow e.symm)
        have b7 : Below w.heap.size W ((W.setCell ⟨w.heap.size + 1, 0, none⟩ (.int .i64 y)).setCell ⟨w.heap.size + 1 + 1, 0, none⟩ (.int .i64 6)) := ((Below.refl w.heap.size W).setCell (p := ⟨w.heap.size + 1, 0, none⟩) (by simp) _).setCell (p := ⟨w.heap.size + 1 + 1, 0, none⟩) (by simp; omega) _
        exact ⟨((KeepsOthers.setCell _ _ _).trans (KeepsOthers.setCell _ _ _)).from _, b7, ⟨_, HG.out, ⟨_, (hb0.other (by omega) _).other (by omega) _, (hrow.kept (grownBy_setCell' _ _ _) n1).kept (grownBy_setCell' _ _ _) n2, trivial⟩, (hb1.set _).other (by omega) _, (hb2.other (by omega) _).set _⟩, hB.trans b7⟩
      · have hor := hor (by omega) (by omega)
        obtain ⟨z, hze⟩ : ∃ z, h0 * 64 + y = z := ⟨_, rfl⟩
        rw [hze] at hor
        have hz0 : 0 ≤ z := by omega
        have hz1 : z < 256 := by omega
        have hand : bits .and .i64 z 0 = 0 := by have := and_low 0 z (by omega); simpa using this
        have hwz : IntKind.u8.wrap (z) = z := by rw [IntKind.wrap_u8]; omega
        have hwf : (Lit.int .u8 (z)).wf = true := wf_u8.2 (by omega)
        have HG := Lib.hid (hg.s2 (z := z) HD.out (by rw [HY.out]; exact hze) ⟨hz0, hz1⟩)
        have hyl := hg.2.2.1
        have hyw := hg.2.1
        simp only at hyl hyw
        clear hg hze
        gi_wp2
        obtain ⟨W3, hW3, c0, c1, c2, r3, k3, b3, z3⟩ := three_set (z := .int .i64 z) (q1 := .int .i64 8) (q2 := .int .i64 0) hb0 hb1 hb2 hrow
        rw [hW3]
        clear hW3 hb0 hb1 hb2 hrow hc0 hf0 hc1 hf1 hc2 hf2
        have hz3 : w.heap.size ≤ W3.heap.size := by omega
        clear z3
        refine region_round (S := fun W' => W'.cell? ⟨w.heap.size + 1, 0, none⟩ = some (.int .i64 z) ∧ W'.cell? ⟨w.heap.size + 1 + 1, 0, none⟩ = some (.int .i64 0)) (by kernel_rfl) (by kernel_rfl) (fun ⟨_, _, h⟩ => h) ⟨(drewB c1).cell, (drewB c2).cell⟩ ?_
        intro hS
        (refine wpAnyH_take (i := 1) (v := ?_) rfl (by kernel_rfl) (by kernel_rfl) (by kernel_rfl) (fun _ _ _ h => h) (Or.inl ⟨by rfl, ?_⟩) hS ?_; rotate_left; (· (intro W7 hSw; obtain ⟨k1, k2⟩ := hSw; go_simp; (try with_reducible rfl))); (try go_simp))
        (refine wpAnyH_take (i := 2) (v := ?_) rfl (by kernel_rfl) (by kernel_rfl) (by kernel_rfl) (fun _ _ _ h => h) (Or.inl ⟨by rfl, ?_⟩) hS ?_; rotate_left; (· (intro W7 hSw; obtain ⟨k1, k2⟩ := hSw; go_simp; (try with_reducible rfl))); (try go_simp))
        (refine wpAnyH_take (i := 3) (v := ?_) rfl (by kernel_rfl) (by kernel_rfl) (by kernel_rfl) (fun _ _ _ h => h) (Or.inl ⟨by rfl, ?_⟩) hS ?_; rotate_left; (· (intro W7 hSw; obtain ⟨k1, k2⟩ := hSw; go_simp; (try with_reducible rfl))); (try go_simp))
        (refine wpAnyH_take (i := 4) (v := ?_) rfl (by kernel_rfl) (by kernel_rfl) (by kernel_rfl) (fun _ _ _ h => h) (Or.inl ⟨by rfl, ?_⟩) hS ?_; rotate_left; (· (intro W7 hSw; obtain ⟨k1, k2⟩ := hSw; go_simp; (try with_reducible rfl))); (try go_simp))
        have hd0 := (drewB c0).cell
        have hdf := (drewB c0).frozen
        have rd : W3.drew.ownsRow w.heap.size 5 1 v ys.length (ys.map (Value.int .u8)) := r3
        have bd : Below w.heap.size w W3.drew := (hB.trans b3).drew
        have zd : w.heap.size ≤ W3.drew.heap.size := bd.size
        have e0 := (c0.alloc (.cells #[.int .u8 (z)] 5)).cell
        refine wpAnyH_ready (rs := [0, 5]) (by kernel_rfl) (by simp) ?_
        refine AllReadyH.cons rfl (fun K hK => ?_) (AllReadyH.cons rfl (fun K hK => ?_) AllReadyH.nil)
        · go_simp
          refine hK.out _ _ hS (fun _ => ?_)
          clear hK K
          refine wpAnyH_ready (rs := [5]) (by kernel_rfl) (by simp) ?_
          refine AllReadyH.cons rfl (fun K hK => ?_) AllReadyH.nil
          go_simp
          refine hK.out _ _ ⟨((drewB c1).alloc _).cell, ((drewB c2).alloc _).cell⟩ (fun _ => ?_)
          clear hK K
          refine wpAnyH_ready (rs := [6]) (by kernel_rfl) (by simp) ?_
          refine AllReadyH.cons rfl (fun K hK => ?_) AllReadyH.nil
          refine step_app rfl rfl eltB (by decide) rfl rfl (Own.alloc ⟨rd, hyw⟩ _) (Sl.one W3.drew .u8 5 (z) hwf) (bd.alloc zd _) ⟨Nat.le_refl _, Nat.le_trans zd (by simp)⟩ (by omega) ?_
          intro v5 w5 ho5 hb5 hg5
          have h5 := ho5.1
          rw [List.length_append] at h5
          obtain ⟨g', cap', rfl⟩ := ownsRow_succ (k := ys.length) h5
          obtain ⟨f0, f1, f2, f3, f4⟩ := (drewB c0).appended (by decide) rd zd (Nat.le_refl _) h5 hg5
          have c15 := ((drewB c1).alloc (.cells #[.int .u8 (z)] 5)).kept hg5 ((drewB c1).not_row (by decide) rd)
          have c25 := ((drewB c2).alloc (.cells #[.int .u8 (z)] 5)).kept hg5 ((drewB c2).not_row (by decide) rd)
          refine hK.out _ _ ⟨c15.cell, c25.cell⟩ (fun _ => ?_)
          clear hK K
          refine wpAnyH_ready (rs := [7]) (by kernel_rfl) (by simp) ?_
          refine AllReadyH.cons rfl (fun K hK => ?_) AllReadyH.nil
          have f0c := f0.cell
          have f0f := f0.frozen
          go_simp
          have c16 := c15.other (B' := w.heap.size) (by omega) (.slice (some ⟨g', 0, none⟩) (ys.length + 1) cap')
          have c26 := c25.other (B' := w.heap.size) (by omega) (.slice (some ⟨g', 0, none⟩) (ys.length + 1) cap')
          refine hK.out _ _ ⟨c16.cell, c26.cell⟩ (fun _ => ?_)
          clear hK K
          refine wpAnyH_done (by kernel_rfl) ?_ _
          obtain ⟨W6, hW6⟩ : ∃ W6, w5.setCell ⟨w.heap.size, 0, none⟩ (.slice (some ⟨g', 0, none⟩) (ys.length + 1) cap') = W6 := ⟨_, rfl⟩
          rw [hW6] at f1 f2 f3 f4 c16 c26 ⊢
          clear hW6 c15 c25 f0 f0c f0f hg5 h5 ho5 hb5 e0 hd0 hdf rd c0 c1 c2 r3 hS
          have p1 := (drewB c16).cell
          have p2 := (drewB c16).frozen
          gi_wp2
          have wr1 : IntKind.i64.wrap 1 = 1 := by decide
          have wr4 : IntKind.i64.wrap 4 = 4 := by decide
          have wr16 : IntKind.i64.wrap 16 = 16 := by decide
          have wr0 : IntKind.i64.wrap 0 = 0 := by decide
          have wr3 : IntKind.i64.wrap 3 = 3 := by decide
          have wr15 : IntKind.i64.wrap 15 = 15 := by decide
          refine region_round (S := fun W' => W'.cell? ⟨w.heap.size + 1 + 1, 0, none⟩ = some (.int .i64 0)) (by kernel_rfl) (by kernel_rfl) (fun ⟨_, _, h⟩ => h) (drewB c26).cell ?_
          intro hS
          (refine wpAnyH_take (i := 1) (v := ?_) rfl (by kernel_rfl) (by kernel_rfl) (by kernel_rfl) (fun _ _ _ h => h) (Or.inl ⟨by rfl, ?_⟩) hS ?_; rotate_left; (· (intro W7 hSw; (try dsimp only at hSw); go_simp; (try with_reducible rfl))); (try go_simp))
          (refine wpAnyH_take (i := 2) (v := ?_) rfl (by kernel_rfl) (by kernel_rfl) (by kernel_rfl) (fun _ _ _ h => h) (Or.inl ⟨by rfl, ?_⟩) hS ?_; rotate_left; (· (intro W7 hSw; (try dsimp only at hSw); go_simp; (try with_reducible rfl))); (try go_simp))
          (refine wpAnyH_take (i := 3) (v := ?_) rfl (by kernel_rfl) (by kernel_rfl) (by kernel_rfl) (fun _ _ _ h => h) (Or.inl ⟨by rfl, ?_⟩) hS ?_; rotate_left; (· (intro W7 hSw; (try dsimp only at hSw); go_simp; (try with_reducible rfl))); (try go_simp))
          refine wpAnyH_ready (rs := [0]) (by kernel_rfl) (by simp) ?_
          refine AllReadyH.cons rfl (fun K hK => ?_) AllReadyH.nil
          go_simp
          refine hK.out _ _ hS (fun _ => ?_)
          clear hK K
          (refine wpAnyH_take (i := 4) (v := ?_) rfl (by kernel_rfl) (by kernel_rfl) (by kernel_rfl) (fun _ _ _ h => h) (Or.inl ⟨by rfl, ?_⟩) hS ?_; rotate_left; (· (intro W7 hSw; (try dsimp only at hSw); go_simp; (try with_reducible rfl))); (try go_simp))
          refine wpAnyH_ready (rs := [5]) (by kernel_rfl) (by simp) ?_
          refine AllReadyH.cons rfl (fun K hK => ?_) AllReadyH.nil
          go_simp
          refine hK.out _ _ ((drewB c26).other (B' := w.heap.size + 1) (by omega) _).cell (fun _ => ?_)
          clear hK K
          refine wpAnyH_done (by kernel_rfl) ?_ _
          gi_wp2
          refine ⟨((k3.trans (KeepsOthers.drew _)).trans ((f3.trans (KeepsOthers.drew _)).trans (KeepsOthers.setCell _ _ _))).from _, ?_⟩
          have b7 : Below w.heap.size W (W6.drew.setCell ⟨w.heap.size + 1, 0, none⟩ (.int .i64 (0))) := ((b3.drew).trans f4.drew).setCell (p := ⟨w.heap.size + 1, 0, none⟩) (by simp) _
          have n1 := (drewB c16).not_row (by decide) f2
          refine ⟨b7, ⟨_, HG.out, ⟨_, (drewB f1).other (by omega) _, ?_, trivial⟩, (drewB c16).set _, (drewB c26).other (by omega) _⟩, hB.trans b7⟩
          have r8 := (show W6.drew.ownsRow w.heap.size 5 1 (.slice (some ⟨g', 0, none⟩) (ys.length + 1) cap') (ys.length + 1) _ from f2).kept (grownBy_setCell' W6.drew (w.heap.size + 1) (.int .i64 (0))) (.inr (fun e => n1 e.symm))
          show World.ownsRow _ _ _ _ _ (ys ++ [z]).length _
          rw [List.length_append]
          exact r8
        · go_simp
          refine hK.out _ _ ⟨((drewB c1).alloc _).cell, ((drewB c2).alloc _).cell⟩ (fun hS2 => ?_)
          clear hK K
          refine wpAnyH_ready (rs := [0]) (by kernel_rfl) (by simp) ?_
          refine AllReadyH.cons rfl (fun K hK => ?_) AllReadyH.nil
          go_simp
          refine hK.out _ _ hS2 (fun _ => ?_)
          clear hK K
          refine wpAnyH_ready (rs := [6]) (by kernel_rfl) (by simp) ?_
          refine AllReadyH.cons rfl (fun K hK => ?_) AllReadyH.nil
          refine step_app rfl rfl eltB (by decide) rfl rfl (Own.alloc ⟨rd, hyw⟩ _) (Sl.one W3.drew .u8 5 (z) hwf) (bd.alloc zd _) ⟨Nat.le_refl _, Nat.le_trans zd (by simp)⟩ (by omega) ?_
          intro v5 w5 ho5 hb5 hg5
          have h5 := ho5.1
          rw [List.length_append] at h5
          obtain ⟨g', cap', rfl⟩ := ownsRow_succ (k := ys.length) h5
          obtain ⟨f0, f1, f2, f3, f4⟩ := (drewB c0).appended (by decide) rd zd (Nat.le_refl _) h5 hg5
          have c15 := ((drewB c1).alloc (.cells #[.int .u8 (z)] 5)).kept hg5 ((drewB c1).not_row (by decide) rd)
          have c25 := ((drewB c2).alloc (.cells #[.int .u8 (z)] 5)).kept hg5 ((drewB c2).not_row (by decide) rd)
          refine hK.out _ _ ⟨c15.cell, c25.cell⟩ (fun _ => ?_)
          clear hK K
          refine wpAnyH_ready (rs := [7]) (by kernel_rfl) (by simp) ?_
          refine AllReadyH.cons rfl (fun K hK => ?_) AllReadyH.nil
          have f0c := f0.cell
          have f0f := f0.frozen
          go_simp
          have c16 := c15.other (B' := w.heap.size) (by omega) (.slice (some ⟨g', 0, none⟩) (ys.length + 1) cap')
          have c26 := c25.other (B' := w.heap.size) (by omega) (.slice (some ⟨g', 0, none⟩) (ys.length + 1) cap')
          refine hK.out _ _ ⟨c16.cell, c26.cell⟩ (fun _ => ?_)
          clear hK K
          refine wpAnyH_done (by kernel_rfl) ?_ _
          obtain ⟨W6, hW6⟩ : ∃ W6, w5.setCell ⟨w.heap.size, 0, none⟩ (.slice (some ⟨g', 0, none⟩) (ys.length + 1) cap') = W6 := ⟨_, rfl⟩
          rw [hW6] at f1 f2 f3 f4 c16 c26 ⊢
          clear hW6 c15 c25 f0 f0c f0f hg5 h5 ho5 hb5 e0 hd0 hdf rd c0 c1 c2 r3 hS
          have p1 := (drewB c16).cell
          have p2 := (drewB c16).frozen
          gi_wp2
          have wr1 : IntKind.i64.wrap 1 = 1 := by decide
          have wr4 : IntKind.i64.wrap 4 = 4 := by decide
          have wr16 : IntKind.i64.wrap 16 = 16 := by decide
          have wr0 : IntKind.i64.wrap 0 = 0 := by decide
          have wr3 : IntKind.i64.wrap 3 = 3 := by decide
          have wr15 : IntKind.i64.wrap 15 = 15 := by decide
          refine region_round (S := fun W' => W'.cell? ⟨w.heap.size + 1 + 1, 0, none⟩ = some (.int .i64 0)) (by kernel_rfl) (by kernel_rfl) (fun ⟨_, _, h⟩ => h) (drewB c26).cell ?_
          intro hS
          (refine wpAnyH_take (i := 1) (v := ?_) rfl (by kernel_rfl) (by kernel_rfl) (by kernel_rfl) (fun _ _ _ h => h) (Or.inl ⟨by rfl, ?_⟩) hS ?_; rotate_left; (· (intro W7 hSw; (try dsimp only at hSw); go_simp; (try with_reducible rfl))); (try go_simp))
          (refine wpAnyH_take (i := 2) (v := ?_) rfl (by kernel_rfl) (by kernel_rfl) (by kernel_rfl) (fun _ _ _ h => h) (Or.inl ⟨by rfl, ?_⟩) hS ?_; rotate_left; (· (intro W7 hSw; (try dsimp only at hSw); go_simp; (try with_reducible rfl))); (try go_simp))
          (refine wpAnyH_take (i := 3) (v := ?_) rfl (by kernel_rfl) (by kernel_rfl) (by kernel_rfl) (fun _ _ _ h => h) (Or.inl ⟨by rfl, ?_⟩) hS ?_; rotate_left; (· (intro W7 hSw; (try dsimp only at hSw); go_simp; (try with_reducible rfl))); (try go_simp))
          refine wpAnyH_ready (rs := [0]) (by kernel_rfl) (by simp) ?_
          refine AllReadyH.cons rfl (fun K hK => ?_) AllReadyH.nil
          go_simp
          refine hK.out _ _ hS (fun _ => ?_)
          clear hK K
          (refine wpAnyH_take (i := 4) (v := ?_) rfl (by kernel_rfl) (by kernel_rfl) (by kernel_rfl) (fun _ _ _ h => h) (Or.inl ⟨by rfl, ?_⟩) hS ?_; rotate_left; (· (intro W7 hSw; (try dsimp only at hSw); go_simp; (try with_reducible rfl))); (try go_simp))
          refine wpAnyH_ready (rs := [5]) (by kernel_rfl) (by simp) ?_
          refine AllReadyH.cons rfl (fun K hK => ?_) AllReadyH.nil
          go_simp
          refine hK.out _ _ ((drewB c26).other (B' := w.heap.size + 1) (by omega) _).cell (fun _ => ?_)
          clear hK K
          refine wpAnyH_done (by kernel_rfl) ?_ _
          gi_wp2
          refine ⟨((k3.trans (KeepsOthers.drew _)).trans ((f3.trans (KeepsOthers.drew _)).trans (KeepsOthers.setCell _ _ _))).from _, ?_⟩
          have b7 : Below w.heap.size W (W6.drew.setCell ⟨w.heap.size + 1, 0, none⟩ (.int .i64 (0))) := ((b3.drew).trans f4.drew).setCell (p := ⟨w.heap.size + 1, 0, none⟩) (by simp) _
          have n1 := (drewB c16).not_row (by decide) f2
          refine ⟨b7, ⟨_, HG.out, ⟨_, (drewB f1).other (by omega) _, ?_, trivial⟩, (drewB c16).set _, (drewB c26).other (by omega) _⟩, hB.trans b7⟩
          have r8 := (show W6.drew.ownsRow w.heap.size 5 1 (.slice (some ⟨g', 0, none⟩) (ys.length + 1) cap') (ys.length + 1) _ from f2).kept (grownBy_setCell' W6.drew (w.heap.size + 1) (.int .i64 (0))) (.inr (fun e => n1 e.symm))
          show World.ownsRow _ _ _ _ _ (ys ++ [z]).length _
          rw [List.length_append]
          exact r8
      · have hor := hor (by omega) (by omega)
        obtain ⟨z, hze⟩ : ∃ z, h0 * 64 + y = z := ⟨_, rfl⟩
        rw [hze] at hor
        have hz0 : 0 ≤ z := by omega
        have hz1 : z < 1024 := by omega
        have hand : bits .and .i64 z 3 = z % 4 := by have := and_low 2 z (by omega); simpa using this
        have hwz : IntKind.u8.wrap (z / 4) = z / 4 := by rw [IntKind.wrap_u8]; omega
        have hwf : (Lit.int .u8 (z / 4)).wf = true := wf_u8.2 (by omega)
        have HG := Lib.hid (hg.s4 (z := z) HD.out (by rw [HY.out]; exact hze) ⟨hz0, hz1⟩)
        have hyl := hg.2.2.1
        have hyw := hg.2.1
        simp only at hyl hyw
        clear hg hze
        gi_wp2
        obtain ⟨W3, hW3, c0, c1, c2, r3, k3, b3, z3⟩ := three_set (z := .int .i64 z) (q1 := .int .i64 10) (q2 := .int .i64 2) hb0 hb1 hb2 hrow
        rw [hW3]
        clear hW3 hb0 hb1 hb2 hrow hc0 hf0 hc1 hf1 hc2 hf2
        have hz3 : w.heap.size ≤ W3.heap.size := by omega
        clear z3
        refine region_round (S := fun W' => W'.cell? ⟨w.heap.size + 1, 0, none⟩ = some (.int .i64 z) ∧ W'.cell? ⟨w.heap.size + 1 + 1, 0, none⟩ = some (.int .i64 2)) (by kernel_rfl) (by kernel_rfl) (fun ⟨_, _, h⟩ => h) ⟨(drewB c1).cell, (drewB c2).cell⟩ ?_
        intro hS
        (refine wpAnyH_take (i := 1) (v := ?_) rfl (by kernel_rfl) (by kernel_rfl) (by kernel_rfl) (fun _ _ _ h => h) (Or.inl ⟨by rfl, ?_⟩) hS ?_; rotate_left; (· (intro W7 hSw; obtain ⟨k1, k2⟩ := hSw; go_simp; (try with_reducible rfl))); (try go_simp))
        (refine wpAnyH_take (i := 2) (v := ?_) rfl (by kernel_rfl) (by kernel_rfl) (by kernel_rfl) (fun _ _ _ h => h) (Or.inl ⟨by rfl, ?_⟩) hS ?_; rotate_left; (· (intro W7 hSw; obtain ⟨k1, k2⟩ := hSw; go_simp; (try with_reducible rfl))); (try go_simp))
        (refine wpAnyH_take (i := 3) (v := ?_) rfl (by kernel_rfl) (by kernel_rfl) (by kernel_rfl) (fun _ _ _ h => h) (Or.inl ⟨by rfl, ?_⟩) hS ?_; rotate_left; (· (intro W7 hSw; obtain ⟨k1, k2⟩ := hSw; go_simp; (try with_reducible rfl))); (try go_simp))
        (refine wpAnyH_take (i := 4) (v := ?_) rfl (by kernel_rfl) (by kernel_rfl) (by kernel_rfl) (fun _ _ _ h => h) (Or.inl ⟨by rfl, ?_⟩) hS ?_; rotate_left; (· (intro W7 hSw; obtain ⟨k1, k2⟩ := hSw; go_simp; (try with_reducible rfl))); (try go_simp))
        have hd0 := (drewB c0).cell
        have hdf := (drewB c0).frozen
        have rd : W3.drew.ownsRow w.heap.size 5 1 v ys.length (ys.map (Value.int .u8)) := r3
        have bd : Below w.heap.size w W3.drew := (hB.trans b3).drew
        have zd : w.heap.size ≤ W3.drew.heap.size := bd.size
        have e0 := (c0.alloc (.cells #[.int .u8 (z / 4)] 5)).cell
        refine wpAnyH_ready (rs := [0, 5]) (by kernel_rfl) (by simp) ?_
        refine AllReadyH.cons rfl (fun K hK => ?_) (AllReadyH.cons rfl (fun K hK => ?_) AllReadyH.nil)
        · go_simp
          refine hK.out _ _ hS (fun _ => ?_)
          clear hK K
          refine wpAnyH_ready (rs := [5]) (by kernel_rfl) (by simp) ?_
          refine AllReadyH.cons rfl (fun K hK => ?_) AllReadyH.nil
          go_simp
          refine hK.out _ _ ⟨((drewB c1).alloc _).cell, ((drewB c2).alloc _).cell⟩ (fun _ => ?_)
          clear hK K
          refine wpAnyH_ready (rs := [6]) (by kernel_rfl) (by simp) ?_
          refine AllReadyH.cons rfl (fun K hK => ?_) AllReadyH.nil
          refine step_app rfl rfl eltB (by decide) rfl rfl (Own.alloc ⟨rd, hyw⟩ _) (Sl.one W3.drew .u8 5 (z / 4) hwf) (bd.alloc zd _) ⟨Nat.le_refl _, Nat.le_trans zd (by simp)⟩ (by omega) ?_
          intro v5 w5 ho5 hb5 hg5
          have h5 := ho5.1
          rw [List.length_append] at h5
          obtain ⟨g', cap', rfl⟩ := ownsRow_succ (k := ys.length) h5
          obtain ⟨f0, f1, f2, f3, f4⟩ := (drewB c0).appended (by decide) rd zd (Nat.le_refl _) h5 hg5
          have c15 := ((drewB c1).alloc (.cells #[.int .u8 (z / 4)] 5)).kept hg5 ((drewB c1).not_row (by decide) rd)
          have c25 := ((drewB c2).alloc (.cells #[.int .u8 (z / 4)] 5)).kept hg5 ((drewB c2).not_row (by decide) rd)
          refine hK.out _ _ ⟨c15.cell, c25.cell⟩ (fun _ => ?_)
          clear hK K
          refine wpAnyH_ready (rs := [7]) (by kernel_rfl) (by simp) ?_
          refine AllReadyH.cons rfl (fun K hK => ?_) AllReadyH.nil
          have f0c := f0.cell
          have f0f := f0.frozen
          go_simp
          have c16 := c15.other (B' := w.heap.size) (by omega) (.slice (some ⟨g', 0, none⟩) (ys.length + 1) cap')
          have c26 := c25.other (B' := w.heap.size) (by omega) (.slice (some ⟨g', 0, none⟩) (ys.length + 1) cap')
          refine hK.out _ _ ⟨c16.cell, c26.cell⟩ (fun _ => ?_)
          clear hK K
          refine wpAnyH_done (by kernel_rfl) ?_ _
          obtain ⟨W6, hW6⟩ : ∃ W6, w5.setCell ⟨w.heap.size, 0, none⟩ (.slice (some ⟨g', 0, none⟩) (ys.length + 1) cap') = W6 := ⟨_, rfl⟩
          rw [hW6] at f1 f2 f3 f4 c16 c26 ⊢
          clear hW6 c15 c25 f0 f0c f0f hg5 h5 ho5 hb5 e0 hd0 hdf rd c0 c1 c2 r3 hS
          have p1 := (drewB c16).cell
          have p2 := (drewB c16).frozen
          gi_wp2
          have wr1 : IntKind.i64.wrap 1 = 1 := by decide
          have wr4 : IntKind.i64.wrap 4 = 4 := by decide
          have wr16 : IntKind.i64.wrap 16 = 16 := by decide
          have wr0 : IntKind.i64.wrap 0 = 0 := by decide
          have wr3 : IntKind.i64.wrap 3 = 3 := by decide
          have wr15 : IntKind.i64.wrap 15 = 15 := by decide
          refine region_round (S := fun W' => W'.cell? ⟨w.heap.size + 1 + 1, 0, none⟩ = some (.int .i64 2)) (by kernel_rfl) (by kernel_rfl) (fun ⟨_, _, h⟩ => h) (drewB c26).cell ?_
          intro hS
          (refine wpAnyH_take (i := 1) (v := ?_) rfl (by kernel_rfl) (by kernel_rfl) (by kernel_rfl) (fun _ _ _ h => h) (Or.inl ⟨by rfl, ?_⟩) hS ?_; rotate_left; (· (intro W7 hSw; (try dsimp only at hSw); go_simp; (try with_reducible rfl))); (try go_simp))
          (refine wpAnyH_take (i := 2) (v := ?_) rfl (by kernel_rfl) (by kernel_rfl) (by kernel_rfl) (fun _ _ _ h => h) (Or.inl ⟨by rfl, ?_⟩) hS ?_; rotate_left; (· (intro W7 hSw; (try dsimp only at hSw); go_simp; (try with_reducible rfl))); (try go_simp))
          (refine wpAnyH_take (i := 3) (v := ?_) rfl (by kernel_rfl) (by kernel_rfl) (by kernel_rfl) (fun _ _ _ h => h) (Or.inl ⟨by rfl, ?_⟩) hS ?_; rotate_left; (· (intro W7 hSw; (try dsimp only at hSw); go_simp; (try with_reducible rfl))); (try go_simp))
          refine wpAnyH_ready (rs := [0]) (by kernel_rfl) (by simp) ?_
          refine AllReadyH.cons rfl (fun K hK => ?_) AllReadyH.nil
          go_simp
          refine hK.out _ _ hS (fun _ => ?_)
          clear hK K
          (refine wpAnyH_take (i := 4) (v := ?_) rfl (by kernel_rfl) (by kernel_rfl) (by kernel_rfl) (fun _ _ _ h => h) (Or.inl ⟨by rfl, ?_⟩) hS ?_; rotate_left; (· (intro W7 hSw; (try dsimp only at hSw); go_simp; (try with_reducible rfl))); (try go_simp))
          refine wpAnyH_ready (rs := [5]) (by kernel_rfl) (by simp) ?_
          refine AllReadyH.cons rfl (fun K hK => ?_) AllReadyH.nil
          go_simp
          refine hK.out _ _ ((drewB c26).other (B' := w.heap.size + 1) (by omega) _).cell (fun _ => ?_)
          clear hK K
          refine wpAnyH_done (by kernel_rfl) ?_ _
          gi_wp2
          refine ⟨((k3.trans (KeepsOthers.drew _)).trans ((f3.trans (KeepsOthers.drew _)).trans (KeepsOthers.setCell _ _ _))).from _, ?_⟩
          have b7 : Below w.heap.size W (W6.drew.setCell ⟨w.heap.size + 1, 0, none⟩ (.int .i64 (z % 4))) := ((b3.drew).trans f4.drew).setCell (p := ⟨w.heap.size + 1, 0, none⟩) (by simp) _
          have n1 := (drewB c16).not_row (by decide) f2
          refine ⟨b7, ⟨_, HG.out, ⟨_, (drewB f1).other (by omega) _, ?_, trivial⟩, (drewB c16).set _, (drewB c26).other (by omega) _⟩, hB.trans b7⟩
          have r8 := (show W6.drew.ownsRow w.heap.size 5 1 (.slice (some ⟨g', 0, none⟩) (ys.length + 1) cap') (ys.length + 1) _ from f2).kept (grownBy_setCell' W6.drew (w.heap.size + 1) (.int .i64 (z % 4))) (.inr (fun e => n1 e.symm))
          show World.ownsRow _ _ _ _ _ (ys ++ [z / 4]).length _
          rw [List.length_append]
          exact r8
        · go_simp
          refine hK.out _ _ ⟨((drewB c1).alloc _).cell, ((drewB c2).alloc _).cell⟩ (fun hS2 => ?_)
          clear hK K
          refine wpAnyH_ready (rs := [0]) (by kernel_rfl) (by simp) ?_
          refine AllReadyH.cons rfl (fun K hK => ?_) AllReadyH.nil
          go_simp
          refine hK.out _ _ hS2 (fun _ => ?_)
          clear hK K
          refine wpAnyH_ready (rs := [6]) (by kernel_rfl) (by simp) ?_
          refine AllReadyH.cons rfl (fun K hK => ?_) AllReadyH.nil
          refine step_app rfl rfl eltB (by decide) rfl rfl (Own.alloc ⟨rd, hyw⟩ _) (Sl.one W3.drew .u8 5 (z / 4) hwf) (bd.alloc zd _) ⟨Nat.le_refl _, Nat.le_trans zd (by simp)⟩ (by omega) ?_
          intro v5 w5 ho5 hb5 hg5
          have h5 := ho5.1
          rw [List.length_append] at h5
          obtain ⟨g', cap', rfl⟩ := ownsRow_succ (k := ys.length) h5
          obtain ⟨f0, f1, f2, f3, f4⟩ := (drewB c0).appended (by decide) rd zd (Nat.le_refl _) h5 hg5
          have c15 := ((drewB c1).alloc (.cells #[.int .u8 (z / 4)] 5)).kept hg5 ((drewB c1).not_row (by decide) rd)
          have c25 := ((drewB c2).alloc (.cells #[.int .u8 (z / 4)] 5)).kept hg5 ((drewB c2).not_row (by decide) rd)
          refine hK.out _ _ ⟨c15.cell, c25.cell⟩ (fun _ => ?_)
          clear hK K
          refine wpAnyH_ready (rs := [7]) (by kernel_rfl) (by simp) ?_
          refine AllReadyH.cons rfl (fun K hK => ?_) AllReadyH.nil
          have f0c := f0.cell
          have f0f := f0.frozen
          go_simp
          have c16 := c15.other (B' := w.heap.size) (by omega) (.slice (some ⟨g', 0, none⟩) (ys.length + 1) cap')
          have c26 := c25.other (B' := w.heap.size) (by omega) (.slice (some ⟨g', 0, none⟩) (ys.length + 1) cap')
          refine hK.out _ _ ⟨c16.cell, c26.cell⟩ (fun _ => ?_)
          clear hK K
          refine wpAnyH_done (by kernel_rfl) ?_ _
          obtain ⟨W6, hW6⟩ : ∃ W6, w5.setCell ⟨w.heap.size, 0, none⟩ (.slice (some ⟨g', 0, none⟩) (ys.length + 1) cap') = W6 := ⟨_, rfl⟩
          rw [hW6] at f1 f2 f3 f4 c16 c26 ⊢
          clear hW6 c15 c25 f0 f0c f0f hg5 h5 ho5 hb5 e0 hd0 hdf rd c0 c1 c2 r3 hS
          have p1 := (drewB c16).cell
          have p2 := (drewB c16).frozen
          gi_wp2
          have wr1 : IntKind.i64.wrap 1 = 1 := by decide
          have wr4 : IntKind.i64.wrap 4 = 4 := by decide
          have wr16 : IntKind.i64.wrap 16 = 16 := by decide
          have wr0 : IntKind.i64.wrap 0 = 0 := by decide
          have wr3 : IntKind.i64.wrap 3 = 3 := by decide
          have wr15 : IntKind.i64.wrap 15 = 15 := by decide
          refine region_round (S := fun W' => W'.cell? ⟨w.heap.size + 1 + 1, 0, none⟩ = some (.int .i64 2)) (by kernel_rfl) (by kernel_rfl) (fun ⟨_, _, h⟩ => h) (drewB c26).cell ?_
          intro hS
          (refine wpAnyH_take (i := 1) (v := ?_) rfl (by kernel_rfl) (by kernel_rfl) (by kernel_rfl) (fun _ _ _ h => h) (Or.inl ⟨by rfl, ?_⟩) hS ?_; rotate_left; (· (intro W7 hSw; (try dsimp only at hSw); go_simp; (try with_reducible rfl))); (try go_simp))
          (refine wpAnyH_take (i := 2) (v := ?_) rfl (by kernel_rfl) (by kernel_rfl) (by kernel_rfl) (fun _ _ _ h => h) (Or.inl ⟨by rfl, ?_⟩) hS ?_; rotate_left; (· (intro W7 hSw; (try dsimp only at hSw); go_simp; (try with_reducible rfl))); (try go_simp))
          (refine wpAnyH_take (i := 3) (v := ?_) rfl (by kernel_rfl) (by kernel_rfl) (by kernel_rfl) (fun _ _ _ h => h) (Or.inl ⟨by rfl, ?_⟩) hS ?_; rotate_left; (· (intro W7 hSw; (try dsimp only at hSw); go_simp; (try with_reducible rfl))); (try go_simp))
          refine wpAnyH_ready (rs := [0]) (by kernel_rfl) (by simp) ?_
          refine AllReadyH.cons rfl (fun K hK => ?_) AllReadyH.nil
          go_simp
          refine hK.out _ _ hS (fun _ => ?_)
          clear hK K
          (refine wpAnyH_take (i := 4) (v := ?_) rfl (by kernel_rfl) (by kernel_rfl) (by kernel_rfl) (fun _ _ _ h => h) (Or.inl ⟨by rfl, ?_⟩) hS ?_; rotate_left; (· (intro W7 hSw; (try dsimp only at hSw); go_simp; (try with_reducible rfl))); (try go_simp))
          refine wpAnyH_ready (rs := [5]) (by kernel_rfl) (by simp) ?_
          refine AllReadyH.cons rfl (fun K hK => ?_) AllReadyH.nil
          go_simp
          refine hK.out _ _ ((drewB c26).other (B' := w.heap.size + 1) (by omega) _).cell (fun _ => ?_)
          clear hK K
          refine wpAnyH_done (by kernel_rfl) ?_ _
          gi_wp2
          refine ⟨((k3.trans (KeepsOthers.drew _)).trans ((f3.trans (KeepsOthers.drew _)).trans (KeepsOthers.setCell _ _ _))).from _, ?_⟩
          have b7 : Below w.heap.size W (W6.drew.setCell ⟨w.heap.size + 1, 0, none⟩ (.int .i64 (z % 4))) := ((b3.drew).trans f4.drew).setCell (p := ⟨w.heap.size + 1, 0, none⟩) (by simp) _
          have n1 := (drewB c16).not_row (by decide) f2
          refine ⟨b7, ⟨_, HG.out, ⟨_, (drewB f1).other (by omega) _, ?_, trivial⟩, (drewB c16).set _, (drewB c26).other (by omega) _⟩, hB.trans b7⟩
          have r8 := (show W6.drew.ownsRow w.heap.size 5 1 (.slice (some ⟨g', 0, none⟩) (ys.length + 1) cap') (ys.length + 1) _ from f2).kept (grownBy_setCell' W6.drew (w.heap.size + 1) (.int .i64 (z % 4))) (.inr (fun e => n1 e.symm))
          show World.ownsRow _ _ _ _ _ (ys ++ [z / 4]).length _
          rw [List.length_append]
          exact r8
      · have hor := hor (by omega) (by omega)
        obtain ⟨z, hze⟩ : ∃ z, h0 * 64 + y = z := ⟨_, rfl⟩
        rw [hze] at hor
        have hz0 : 0 ≤ z := by omega
        have hz1 : z < 4096 := by omega
        have hand : bits .and .i64 z 15 = z % 16 := by have := and_low 4 z (by omega); simpa using this
        have hwz : IntKind.u8.wrap (z / 16) = z / 16 := by rw [IntKind.wrap_u8]; omega
        have hwf : (Lit.int .u8 (z / 16)).wf = true := wf_u8.2 (by omega)
        have HG := Lib.hid (hg.s6 (z := z) HD.out (by rw [HY.out]; exact hze) ⟨hz0, hz1⟩)
        have hyl := hg.2.2.1
        have hyw := hg.2.1
        simp only at hyl hyw
        clear hg hze
        gi_wp2
        obtain ⟨W3, hW3, c0, c1, c2, r3, k3, b3, z3⟩ := three_set (z := .int .i64 z) (q1 := .int .i64 12) (q2 := .int .i64 4) hb0 hb1 hb2 hrow
        rw [hW3]
        clear hW3 hb0 hb1 hb2 hrow hc0 hf0 hc1 hf1 hc2 hf2
        have hz3 : w.heap.size ≤ W3.heap.size := by omega
        clear z3
        refine region_round (S := fun W' => W'.cell? ⟨w.heap.size + 1, 0, none⟩ = some (.int .i64 z) ∧ W'.cell? ⟨w.heap.size + 1 + 1, 0, none⟩ = some (.int .i64 4)) (by kernel_rfl) (by kernel_rfl) (fun ⟨_, _, h⟩ => h) ⟨(drewB c1).cell, (drewB c2).cell⟩ ?_
        intro hS
        (refine wpAnyH_take (i := 1) (v := ?_) rfl (by kernel_rfl) (by kernel_rfl) (by kernel_rfl) (fun _ _ _ h => h) (Or.inl ⟨by rfl, ?_⟩) hS ?_; rotate_left; (· (intro W7 hSw; obtain ⟨k1, k2⟩ := hSw; go_simp; (try with_reducible rfl))); (try go_simp))
        (refine wpAnyH_take (i := 2) (v := ?_) rfl (by kernel_rfl) (by kernel_rfl) (by kernel_rfl) (fun _ _ _ h => h) (Or.inl ⟨by rfl, ?_⟩) hS ?_; rotate_left; (· (intro W7 hSw; obtain ⟨k1, k2⟩ := hSw; go_simp; (try with_reducible rfl))); (try go_simp))
        (refine wpAnyH_take (i := 3) (v := ?_) rfl (by kernel_rfl) (by kernel_rfl) (by kernel_rfl) (fun _ _ _ h => h) (Or.inl ⟨by rfl, ?_⟩) hS ?_; rotate_left; (· (intro W7 hSw; obtain ⟨k1, k2⟩ := hSw; go_simp; (try with_reducible rfl))); (try go_simp))
        (refine wpAnyH_take (i := 4) (v := ?_) rfl (by kernel_rfl) (by kernel_rfl) (by kernel_rfl) (fun _ _ _ h => h) (Or.inl ⟨by rfl, ?_⟩) hS ?_; rotate_left; (· (intro W7 hSw; obtain ⟨k1, k2⟩ := hSw; go_simp; (try with_reducible rfl))); (try go_simp))
        have hd0 := (drewB c0).cell
        have hdf := (drewB c0).frozen
        have rd : W3.drew.ownsRow w.heap.size 5 1 v ys.length (ys.map (Value.int .u8)) := r3
        have bd : Below w.heap.size w W3.drew := (hB.trans b3).drew
        have zd : w.heap.size ≤ W3.drew.heap.size := bd.size
        have e0 := (c0.alloc (.cells #[.int .u8 (z / 16)] 5)).cell
        refine wpAnyH_ready (rs := [0, 5]) (by kernel_rfl) (by simp) ?_
        refine AllReadyH.cons rfl (fun K hK => ?_) (AllReadyH.cons rfl (fun K hK => ?_) AllReadyH.nil)
        · go_simp
          refine hK.out _ _ hS (fun _ => ?_)
          clear hK K
          refine wpAnyH_ready (rs := [5]) (by kernel_rfl) (by simp) ?_
          refine AllReadyH.cons rfl (fun K hK => ?_) AllReadyH.nil
          go_simp
          refine hK.out _ _ ⟨((drewB c1).alloc _).cell, ((drewB c2).alloc _).cell⟩ (fun _ => ?_)
          clear hK K
          refine wpAnyH_ready (rs := [6]) (by kernel_rfl) (by simp) ?_
          refine AllReadyH.cons rfl (fun K hK => ?_) AllReadyH.nil
          refine step_app rfl rfl eltB (by decide) rfl rfl (Own.alloc ⟨rd, hyw⟩ _) (Sl.one W3.drew .u8 5 (z / 16) hwf) (bd.alloc zd _) ⟨Nat.le_refl _, Nat.le_trans zd (by simp)⟩ (by omega) ?_
          intro v5 w5 ho5 hb5 hg5
          have h5 := ho5.1
          rw [List.length_append] at h5
          obtain ⟨g', cap', rfl⟩ := ownsRow_succ (k := ys.length) h5
          obtain ⟨f0, f1, f2, f3, f4⟩ := (drewB c0).appended (by decide) rd zd (Nat.le_refl _) h5 hg5
          have c15 := ((drewB c1).alloc (.cells #[.int .u8 (z / 16)] 5)).kept hg5 ((drewB c1).not_row (by decide) rd)
          have c25 := ((drewB c2).alloc (.cells #[.int .u8 (z / 16)] 5)).kept hg5 ((drewB c2).not_row (by decide) rd)
          refine hK.out _ _ ⟨c15.cell, c25.cell⟩ (fun _ => ?_)
          clear hK K
          refine wpAnyH_ready (rs := [7]) (by kernel_rfl) (by simp) ?_
          refine AllReadyH.cons rfl (fun K hK => ?_) AllReadyH.nil
          have f0c := f0.cell
          have f0f := f0.frozen
          go_simp
          have c16 := c15.other (B' := w.heap.size) (by omega) (.slice (some ⟨g', 0, none⟩) (ys.length + 1) cap')
          have c26 := c25.other (B' := w.heap.size) (by omega) (.slice (some ⟨g', 0, none⟩) (ys.length + 1) cap')
          refine hK.out _ _ ⟨c16.cell, c26.cell⟩ (fun _ => ?_)
          clear hK K
          refine wpAnyH_done (by kernel_rfl) ?_ _
          obtain ⟨W6, hW6⟩ : ∃ W6, w5.setCell ⟨w.heap.size, 0, none⟩ (.slice (some ⟨g', 0, none⟩) (ys.length + 1) cap') = W6 := ⟨_, rfl⟩
          rw [hW6] at f1 f2 f3 f4 c16 c26 ⊢
          clear hW6 c15 c25 f0 f0c f0f hg5 h5 ho5 hb5 e0 hd0 hdf rd c0 c1 c2 r3 hS
          have p1 := (drewB c16).cell
          have p2 := (drewB c16).frozen
          gi_wp2
          have wr1 : IntKind.i64.wrap 1 = 1 := by decide
          have wr4 : IntKind.i64.wrap 4 = 4 := by decide
          have wr16 : IntKind.i64.wrap 16 = 16 := by decide
          have wr0 : IntKind.i64.wrap 0 = 0 := by decide
          have wr3 : IntKind.i64.wrap 3 = 3 := by decide
          have wr15 : IntKind.i64.wrap 15 = 15 := by decide
          refine region_round (S := fun W' => W'.cell? ⟨w.heap.size + 1 + 1, 0, none⟩ = some (.int .i64 4)) (by kernel_rfl) (by kernel_rfl) (fun ⟨_, _, h⟩ => h) (drewB c26).cell ?_
          intro hS
          (refine wpAnyH_take (i := 1) (v := ?_) rfl (by kernel_rfl) (by kernel_rfl) (by kernel_rfl) (fun _ _ _ h => h) (Or.inl ⟨by rfl, ?_⟩) hS ?_; rotate_left; (· (intro W7 hSw; (try dsimp only at hSw); go_simp; (try with_reducible rfl))); (try go_simp))
          (refine wpAnyH_take (i := 2) (v := ?_) rfl (by kernel_rfl) (by kernel_rfl) (by kernel_rfl) (fun _ _ _ h => h) (Or.inl ⟨by rfl, ?_⟩) hS ?_; rotate_left; (· (intro W7 hSw; (try dsimp only at hSw); go_simp; (try with_reducible rfl))); (try go_simp))
          (refine wpAnyH_take (i := 3) (v := ?_) rfl (by kernel_rfl) (by kernel_rfl) (by kernel_rfl) (fun _ _ _ h => h) (Or.inl ⟨by rfl, ?_⟩) hS ?_; rotate_left; (· (intro W7 hSw; (try dsimp only at hSw); go_simp; (try with_reducible rfl))); (try go_simp))
          refine wpAnyH_ready (rs := [0]) (by kernel_rfl) (by simp) ?_
          refine AllReadyH.cons rfl (fun K hK => ?_) AllReadyH.nil
          go_simp
          refine hK.out _ _ hS (fun _ => ?_)
          clear hK K
          (refine wpAnyH_take (i := 4) (v := ?_) rfl (by kernel_rfl) (by kernel_rfl) (by kernel_rfl) (fun _ _ _ h => h) (Or.inl ⟨by rfl, ?_⟩) hS ?_; rotate_left; (· (intro W7 hSw; (try dsimp only at hSw); go_simp; (try with_reducible rfl))); (try go_simp))
          refine wpAnyH_ready (rs := [5]) (by kernel_rfl) (by simp) ?_
          refine AllReadyH.cons rfl (fun K hK => ?_) AllReadyH.nil
          go_simp
          refine hK.out _ _ ((drewB c26).other (B' := w.heap.size + 1) (by omega) _).cell (fun _ => ?_)
          clear hK K
          refine wpAnyH_done (by kernel_rfl) ?_ _
          gi_wp2
          refine ⟨((k3.trans (KeepsOthers.drew _)).trans ((f3.trans (KeepsOthers.drew _)).trans (KeepsOthers.setCell _ _ _))).from _, ?_⟩
          have b7 : Below w.heap.size W (W6.drew.setCell ⟨w.heap.size + 1, 0, none⟩ (.int .i64 (z % 16))) := ((b3.drew).trans f4.drew).setCell (p := ⟨w.heap.size + 1, 0, none⟩) (by simp) _
          have n1 := (drewB c16).not_row (by decide) f2
          refine ⟨b7, ⟨_, HG.out, ⟨_, (drewB f1).other (by omega) _, ?_, trivial⟩, (drewB c16).set _, (drewB c26).other (by omega) _⟩, hB.trans b7⟩
          have r8 := (show W6.drew.ownsRow w.heap.size 5 1 (.slice (some ⟨g', 0, none⟩) (ys.length + 1) cap') (ys.length + 1) _ from f2).kept (grownBy_setCell' W6.drew (w.heap.size + 1) (.int .i64 (z % 16))) (.inr (fun e => n1 e.symm))
          show World.ownsRow _ _ _ _ _ (ys ++ [z / 16]).length _
          rw [List.length_append]
          exact r8
        · go_simp
          refine hK.out _ _ ⟨((drewB c1).alloc _).cell, ((drewB c2).alloc _).cell⟩ (fun hS2 => ?_)
          clear hK K
          refine wpAnyH_ready (rs := [0]) (by kernel_rfl) (by simp) ?_
          refine AllReadyH.cons rfl (fun K hK => ?_) AllReadyH.nil
          go_simp
          refine hK.out _ _ hS2 (fun _ => ?_)
          clear hK K
          refine wpAnyH_ready (rs := [6]) (by kernel_rfl) (by simp) ?_
          refine AllReadyH.cons rfl (fun K hK => ?_) AllReadyH.nil
          refine step_app rfl rfl eltB (by decide) rfl rfl (Own.alloc ⟨rd, hyw⟩ _) (Sl.one W3.drew .u8 5 (z / 16) hwf) (bd.alloc zd _) ⟨Nat.le_refl _, Nat.le_trans zd (by simp)⟩ (by omega) ?_
          intro v5 w5 ho5 hb5 hg5
          have h5 := ho5.1
          rw [List.length_append] at h5
          obtain ⟨g', cap', rfl⟩ := ownsRow_succ (k := ys.length) h5
          obtain ⟨f0, f1, f2, f3, f4⟩ := (drewB c0).appended (by decide) rd zd (Nat.le_refl _) h5 hg5
          have c15 := ((drewB c1).alloc (.cells #[.int .u8 (z / 16)] 5)).kept hg5 ((drewB c1).not_row (by decide) rd)
          have c25 := ((drewB c2).alloc (.cells #[.int .u8 (z / 16)] 5)).kept hg5 ((drewB c2).not_row (by decide) rd)
          refine hK.out _ _ ⟨c15.cell, c25.cell⟩ (fun _ => ?_)
          clear hK K
          refine wpAnyH_ready (rs := [7]) (by kernel_rfl) (by simp) ?_
          refine AllReadyH.cons rfl (fun K hK => ?_) AllReadyH.nil
          have f0c := f0.cell
          have f0f := f0.frozen
          go_simp
          have c16 := c15.other (B' := w.heap.size) (by omega) (.slice (some ⟨g', 0, none⟩) (ys.length + 1) cap')
          have c26 := c25.other (B' := w.heap.size) (by omega) (.slice (some ⟨g', 0, none⟩) (ys.length + 1) cap')
          refine hK.out _ _ ⟨c16.cell, c26.cell⟩ (fun _ => ?_)
          clear hK K
          refine wpAnyH_done (by kernel_rfl) ?_ _
          obtain ⟨W6, hW6⟩ : ∃ W6, w5.setCell ⟨w.heap.size, 0, none⟩ (.slice (some ⟨g', 0, none⟩) (ys.length + 1) cap') = W6 := ⟨_, rfl⟩
          rw [hW6] at f1 f2 f3 f4 c16 c26 ⊢
          clear hW6 c15 c25 f0 f0c f0f hg5 h5 ho5 hb5 e0 hd0 hdf rd c0 c1 c2 r3 hS
          have p1 := (drewB c16).cell
          have p2 := (drewB c16).frozen
          gi_wp2
          have wr1 : IntKind.i64.wrap 1 = 1 := by decide
          have wr4 : IntKind.i64.wrap 4 = 4 := by decide
          have wr16 : IntKind.i64.wrap 16 = 16 := by decide
          have wr0 : IntKind.i64.wrap 0 = 0 := by decide
          have wr3 : IntKind.i64.wrap 3 = 3 := by decide
          have wr15 : IntKind.i64.wrap 15 = 15 := by decide
          refine region_round (S := fun W' => W'.cell? ⟨w.heap.size + 1 + 1, 0, none⟩ = some (.int .i64 4)) (by kernel_rfl) (by kernel_rfl) (fun ⟨_, _, h⟩ => h) (drewB c26).cell ?_
          intro hS
          (refine wpAnyH_take (i := 1) (v := ?_) rfl (by kernel_rfl) (by kernel_rfl) (by kernel_rfl) (fun _ _ _ h => h) (Or.inl ⟨by rfl, ?_⟩) hS ?_; rotate_left; (· (intro W7 hSw; (try dsimp only at hSw); go_simp; (try with_reducible rfl))); (try go_simp))
          (refine wpAnyH_take (i := 2) (v := ?_) rfl (by kernel_rfl) (by kernel_rfl) (by kernel_rfl) (fun _ _ _ h => h) (Or.inl ⟨by rfl, ?_⟩) hS ?_; rotate_left; (· (intro W7 hSw; (try dsimp only at hSw); go_simp; (try with_reducible rfl))); (try go_simp))
          (refine wpAnyH_take (i := 3) (v := ?_) rfl (by kernel_rfl) (by kernel_rfl) (by kernel_rfl) (fun _ _ _ h => h) (Or.inl ⟨by rfl, ?_⟩) hS ?_; rotate_left; (· (intro W7 hSw; (try dsimp only at hSw); go_simp; (try with_reducible rfl))); (try go_simp))
          refine wpAnyH_ready (rs := [0]) (by kernel_rfl) (by simp) ?_
          refine AllReadyH.cons rfl (fun K hK => ?_) AllReadyH.nil
          go_simp
          refine hK.out _ _ hS (fun _ => ?_)
          clear hK K
          (refine wpAnyH_take (i := 4) (v := ?_) rfl (by kernel_rfl) (by kernel_rfl) (by kernel_rfl) (fun _ _ _ h => h) (Or.inl ⟨by rfl, ?_⟩) hS ?_; rotate_left; (· (intro W7 hSw; (try dsimp only at hSw); go_simp; (try with_reducible rfl))); (try go_simp))
          refine wpAnyH_ready (rs := [5]) (by kernel_rfl) (by simp) ?_
          refine AllReadyH.cons rfl (fun K hK => ?_) AllReadyH.nil
          go_simp
          refine hK.out _ _ ((drewB c26).other (B' := w.heap.size + 1) (by omega) _).cell (fun _ => ?_)
          clear hK K
          refine wpAnyH_done (by kernel_rfl) ?_ _
          gi_wp2
          refine ⟨((k3.trans (KeepsOthers.drew _)).trans ((f3.trans (KeepsOthers.drew _)).trans (KeepsOthers.setCell _ _ _))).from _, ?_⟩
          have b7 : Below w.heap.size W (W6.drew.setCell ⟨w.heap.size + 1, 0, none⟩ (.int .i64 (z % 16))) := ((b3.drew).trans f4.drew).setCell (p := ⟨w.heap.size + 1, 0, none⟩) (by simp) _
          have n1 := (drewB c16).not_row (by decide) f2
          refine ⟨b7, ⟨_, HG.out, ⟨_, (drewB f1).other (by omega) _, ?_, trivial⟩, (drewB c16).set _, (drewB c26).other (by omega) _⟩, hB.trans b7⟩
          have r8 := (show W6.drew.ownsRow w.heap.size 5 1 (.slice (some ⟨g', 0, none⟩) (ys.length + 1) cap') (ys.length + 1) _ from f2).kept (grownBy_setCell' W6.drew (w.heap.size + 1) (.int .i64 (z % 16))) (.inr (fun e => n1 e.symm))
          show World.ownsRow _ _ _ _ _ (ys ++ [z / 16]).length _
          rw [List.length_append]
          exact r8
    | false =>
      have hnn : numE x < 0 := by rw [numE_no hd]; decide
      have HG := Lib.hid (hg.no hd)
      clear hd
      gi_wp2
      exact ⟨KeepsFrom.refl _ _, Below.refl _ _, ⟨_, HG.out, ⟨v, hb0, hrow, trivial⟩, hb1, hb2⟩, hB⟩
  case done =>
    rintro D ys W hD rfl ⟨⟨⟨ys, h0, q⟩, hg, ⟨v, hb0, hrow, _⟩, hb1, hb2⟩, hB⟩ hK
    have hc0 := hb0.cell
    have hc2 := hb2.cell
    have HF := Lib.hid hg.fin
    clear hg
    gi_wp2
    refine wpIn_wide.2 ?_
    go_quiet (fail)
    gi_wp2
    have hK2 : (W.drewN nq).heap[D]? = some (.deferred (some [])) := hK
    refine ⟨by simp, .inl ⟨_, _, rfl, run_takeDeferred hK2, ?_⟩⟩
    have hrow2 : (W.drewN nq).ownsRow w.heap.size 5 1 v ys.length (ys.map (Value.int .u8)) := hrow
    have hB2 : Below w.heap.size w (W.drewN nq) := below_drewN hB nq
    refine ⟨_, results_tmp2 (t := 2) (u := 3) rfl _ _ _, v, (by show Ending.returned (.tuple #[v, .int .i64 q]) = _; rw [HF.out.2]), ⟨?_, fun y hy => wf_u8.2 (lrd_wf xs y hy)⟩, hB2.trans (belowK_b (w := w) (Nat.le_refl _) (W.drewN nq) D _ _ (by simp at hD; omega) hK2 rfl rfl)⟩
    rw [← HF.out.1]; exact ownsRow_putObj hrow2 _ hK2 rfl
  case stop =>
    rintro D c pre W _ _ h _
    exact h.elim
end Go.Proofs.Ytibnmekifaaacaa
