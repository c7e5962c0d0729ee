/- append to a slice of the call's own as one step of a region that draws its order; lines of the call's own of which the last one grows. No condition: plain lemmas. -/
import Derived.Test.YtibnmekifaaacaaRowl
import Derived.Deep.RegionLawGrows
namespace Go.Proofs.Ytibnmekifaaacaa
open Go.RowKit

theorem step_app {P : Program} {ops : Array Oper} {o : Oper} {a : Act} {w : World} {K : Act → World → Prop} {Q : Exit → Act → World → Prop} {E' : Prop} (hgd : o.guard = none) {s x : Operand} {T : TypeId}
    (ho : o.op = .call { callee := .builtin .append, args := #[s, x], argTypes := #[T, T] }) {B : Nat} {E : TypeId} {k : IntKind} {bytes : Nat} (he : Elt P T E k bytes) (hby : bytes ≤ 64)
    {v : Value} {xs ys : List Int} {A : Option Addr} {m c : Nat} (hs : a.eval s = v) (hx : a.eval x = .slice A m c)
    (hown : Own w B E k v xs) (hsl : Sl w k A m c ys) {B0 : Nat} {w0 : World} (hbel : Below B0 w0 w) (hB : B0 ≤ B ∧ B ≤ w.heap.size) (hlen : xs.length + m ≤ 1099511627776)
    (h : ∀ v' w', Own w' B E k v' (xs ++ ys) → Below B0 w0 w' → w.grownBy w' v.ownBlock → K (a.put o.dst v') w') : if Region.wanted o (yielded ops a.tmps) = true then Oper.wp P o a w K Q else E' := by
  have hw : Region.wanted o (yielded ops a.tmps) = true := by simp [Region.wanted, hgd]
  rw [if_pos hw]
  obtain ⟨v', w', hrun, h2, h3⟩ := run_app (P := P) o.type he hown hsl hB.2 hlen hby
  unfold Oper.wp execOp
  simp only [ho, resolve, invoke, builtin, Sem.run_bind, Sem.run_pure, Result.andThen_ok, List.map_toArray, List.map_cons, List.map_nil, hs, hx, hrun]
  exact h v' w' h2 (hbel.trans ((hown.grow h3 hB.2).mono hB.1)) h3

/-- the call's own lines, of which the last one, cur, is the call's own from block H on -/
def CurL (w : World) (B : Nat) (e e5 : TypeId) (v : Value) (ls : List (List Int)) (u : Value) (cur : List Int) (H : Nat) : Prop :=
  ∃ vs, w.ownsRow B e 1 v (ls.length + 1) (vs ++ [u]) ∧ vs.length = ls.length ∧ (∀ j, j < ls.length → ∃ y, vs[j]? = some y ∧ Own w B e5 .u8 y (ls.getD j []) ∧ ∀ g, y.ownBlock = some g → g < H) ∧
    Own w H e5 .u8 u cur ∧ B ≤ H ∧ H ≤ w.heap.size
section
variable {w w' : World} {B H : Nat} {e e5 : TypeId} {v u : Value} {ls : List (List Int)} {cur : List Int}
theorem CurL.below (h : CurL w B e e5 v ls u cur H) (hb : Below w.heap.size w w') : CurL w' B e e5 v ls u cur H := by
  obtain ⟨vs, ⟨h1, h2⟩, h3, h4, h5, h6, h7⟩ := h
  refine ⟨vs, ⟨h1, ?_⟩, h3, fun j hj => ?_, h5.below hb, h6, Nat.le_trans h7 hb.size⟩
  · rcases h2 with h2 | ⟨g, cap, cur, hv, hg, hh, r⟩
    · exact .inl h2
    · exact .inr ⟨g, cap, cur, hv, hg, by rw [hb.block g (Array.getElem?_eq_some_iff.1 hh).1]; exact hh, r⟩
  · obtain ⟨y, hy, ho, hg⟩ := h4 j hj
    exact ⟨y, hy, ho.below hb, hg⟩
theorem CurL.alloc (h : CurL w B e e5 v ls u cur H) (o : Obj) : CurL (w.alloc o) B e e5 v ls u cur H := h.below ((Below.refl _ _).alloc (Nat.le_refl _) o)
theorem CurL.start (w : World) (e e5 : TypeId) : CurL (w.alloc (.cells #[.slice none 0 0] e)) w.heap.size e e5 (.slice (some ⟨w.heap.size, 0, none⟩) 1 1) [] (.slice none 0 0) [] (w.heap.size + 1) := by
  refine ⟨[], ?_, rfl, fun j hj => absurd hj (by simp), Own.nil _ _ _ _, by omega, by simp⟩
  have h := World.ownsRow_lit (base := w.heap.size) (e := e) (size := 1) w #[.slice none 0 0] 1 (Nat.le_refl _) (by unfold maxLen; omega) (by simp)
  simpa using h
/-- the place of the last line -/
theorem CurL.at_ (h : CurL w B e e5 v ls u cur H) : ∃ g c, v = .slice (some ⟨g, 0, none⟩) (ls.length + 1) c ∧ g < w.heap.size ∧ B ≤ g ∧ w.cell? ⟨g, ls.length, none⟩ = some u ∧ w.frozen? ⟨g, ls.length, none⟩ = false ∧ ls.length + 1 ≤ c ∧ c ≤ maxLen := by
  obtain ⟨vs, h1, h3, h4, h5, h6, h7⟩ := h
  have h0 := h1
  rcases h1.2 with ⟨_, hn⟩ | ⟨g, cap, arr, rfl, hg, hh, hnc, hcm, r⟩
  · omega
  · refine ⟨g, cap, rfl, (Array.getElem?_eq_some_iff.1 hh).1, hg, ?_, h0.frozenAt _, hnc, hcm⟩
    rw [h0.cellAt ls.length (by simp)]
    simp [← h3]
theorem Own.blk {B' : Nat} {k : IntKind} {xs : List Int} {y : Value} (h : Own w B' e5 k y xs) : ∀ g, y.ownBlock = some g → B' ≤ g ∧ g < w.heap.size ∧ ∃ arr fr, w.heap[g]? = some (.cells arr e5 fr) := by
  intro g hg
  obtain ⟨⟨h1, h2⟩, _⟩ := h
  rcases h2 with ⟨rfl, _⟩ | ⟨g', cap, c, rfl, hb, hh, _⟩
  · simp [Value.ownBlock] at hg
  · simp [Value.ownBlock] at hg
    subst hg
    exact ⟨hb, (Array.getElem?_eq_some_iff.1 hh).1, c, (0, 0), hh⟩
theorem CurL.own (h : CurL w B e e5 v ls u cur H) : Own w H e5 .u8 u cur ∧ B ≤ H ∧ H ≤ w.heap.size := by
  obtain ⟨vs, _, _, _, h5, h6, h7⟩ := h
  exact ⟨h5, h6, h7⟩
theorem CurL.keepAt {w1 : World} {g c n : Nat} (h : CurL w B e e5 (.slice (some ⟨g, 0, none⟩) n c) ls u cur H) (hne : e5 ≠ e) (hg : w.grownBy w1 u.ownBlock) :
    w1.cell? ⟨g, ls.length, none⟩ = some u ∧ w1.frozen? ⟨g, ls.length, none⟩ = false := by
  obtain ⟨g0, c0, hv0, _, _, hc0, hf0, _, _⟩ := h.at_
  injection hv0 with hv0 _ _; injection hv0 with hv0; injection hv0 with hv0 _ _
  subst hv0
  obtain ⟨vs, h1, h3, h4, h5, h6, h7⟩ := h
  have hub := h5.blk
  rcases h1.2 with ⟨_, hn⟩ | ⟨g', cap, arr, hv, _, hh, _⟩
  · omega
  · injection hv with hv _ _; injection hv with hv; injection hv with hv _ _
    subst hv
    have hb : w1.heap[g]? = w.heap[g]? := hg.block g (Array.getElem?_eq_some_iff.1 hh).1 (fun hu => by
      obtain ⟨_, _, arr', fr, hh'⟩ := hub g hu.symm
      rw [hh] at hh'
      injection hh' with hh'; injection hh' with _ hh' _
      exact hne hh'.symm)
    exact ⟨(World.cell?_of_block (a := ⟨g, ls.length, none⟩) hb).trans hc0, (World.frozen?_of_block (a := ⟨g, ls.length, none⟩) hb).trans hf0⟩
/-- the last line has grown, in its own row: then it is stored -/
theorem CurL.grow {w1 : World} {u' : Value} {cur' : List Int} {g c : Nat} (h : CurL w B e e5 (.slice (some ⟨g, 0, none⟩) (ls.length + 1) c) ls u cur H) (hne : e5 ≠ e)
    (ho : Own w1 H e5 .u8 u' cur') (hg : w.grownBy w1 u.ownBlock) :
    CurL (w1.setCell ⟨g, ls.length, none⟩ u') B e e5 (.slice (some ⟨g, 0, none⟩) (ls.length + 1) c) ls u' cur' H := by
  obtain ⟨vs, h1, h3, h4, h5, h6, h7⟩ := h
  have hub := h5.blk
  have hrow : ∃ arr, w.heap[g]? = some (.cells arr e (0, 0)) := by
    rcases h1.2 with ⟨_, hn⟩ | ⟨g', cap, arr, hv, _, hh, _⟩
    · omega
    · injection hv with hv _ _; injection hv with hv; injection hv with hv _ _
      subst hv; exact ⟨arr, hh⟩
  obtain ⟨arr0, hrow⟩ := hrow
  have hneb : u.ownBlock ≠ some g := by
    intro hu
    obtain ⟨_, _, arr, fr, hh⟩ := hub g hu
    rw [hrow] at hh
    injection hh with hh; injection hh with _ hh _
    exact hne hh.symm
  have h1' : w1.ownsRow B e 1 (.slice (some ⟨g, 0, none⟩) (ls.length + 1) c) (ls.length + 1) (vs ++ [u]) := h1.kept hg (.inr (fun hh => hneb hh.symm))
  have hst := (h1'.stored ls.length u').1
  have hset : (vs ++ [u]).set ls.length u' = vs ++ [u'] := by rw [← h3]; simp
  rw [hset] at hst
  have hout : ∀ {k : IntKind} {B' : Nat} {y : Value} {xs : List Int}, Own w1 B' e5 k y xs → Own (w1.setCell ⟨g, ls.length, none⟩ u') B' e5 k y xs := by
    intro k B' y xs hy
    obtain ⟨⟨a1, a2⟩, a3⟩ := hy
    refine ⟨⟨a1, ?_⟩, a3⟩
    rcases a2 with a2 | ⟨g', cap, cc, hv, hb, hh, r⟩
    · exact .inl a2
    · refine .inr ⟨g', cap, cc, hv, hb, ?_, r⟩
      have hgg : g' ≠ g := by
        intro hgg; subst hgg
        have hr1 : w1.heap[g']? = some (.cells arr0 e (0, 0)) := by rw [hg.block g' (Array.getElem?_eq_some_iff.1 hrow).1 (fun hh => hneb hh.symm)]; exact hrow
        rw [hr1] at hh
        injection hh with hh; injection hh with _ hh _
        exact hne hh.symm
      have : (w1.setCell ⟨g, ls.length, none⟩ u').heap[g']? = w1.heap[g']? := by
        simp only [World.setCell, Array.getElem?_modify]
        rw [if_neg (fun h => hgg h.symm)]
      rw [this]; exact hh
  refine ⟨vs, hst, h3, fun j hj => ?_, hout ho, h6, by simp only [World.setCell, Array.size_modify]; exact Nat.le_trans h7 hg.size⟩
  obtain ⟨y, hy, hoy, hyg⟩ := h4 j hj
  refine ⟨y, hy, hout (hoy.kept hg ?_), hyg⟩
  cases hyb : y.ownBlock with
  | none => exact .inl rfl
  | some gy =>
    refine .inr fun hh => ?_
    have h8 := hyg gy hyb
    have h9 := (hub gy hh.symm).1
    omega
/-- a line more -/
theorem CurL.next {w1 : World} {v' : Value} (h : CurL w B e e5 v ls u cur H) (hne : e5 ≠ e) (hB : B ≤ w.heap.size)
    (hrow : ∀ vs, w.ownsRow B e 1 v (ls.length + 1) (vs ++ [u]) → w1.ownsRow B e 1 v' (ls.length + 2) (vs ++ [u] ++ [.slice none 0 0])) (hg : w.grownBy w1 v.ownBlock) :
    CurL w1 B e e5 v' (ls ++ [cur]) (.slice none 0 0) [] w1.heap.size := by
  obtain ⟨vs, h1, h3, h4, h5, h6, h7⟩ := h
  have hvb : ∀ g, v.ownBlock = some g → ∃ arr, w.heap[g]? = some (.cells arr e (0, 0)) := by
    intro g hg
    rcases h1.2 with ⟨rfl, _⟩ | ⟨g', cap, arr, rfl, _, hh, _⟩
    · simp [Value.ownBlock] at hg
    · simp [Value.ownBlock] at hg; subst hg; exact ⟨arr, hh⟩
  have hkeep : ∀ {B' : Nat} {y : Value} {xs : List Int}, Own w B' e5 .u8 y xs → Own w1 B' e5 .u8 y xs := by
    intro B' y xs hy
    refine hy.kept hg ?_
    cases hyb : y.ownBlock with
    | none => exact .inl rfl
    | some gy =>
      refine .inr fun hh => ?_
      obtain ⟨_, _, a1, f1, e1⟩ := hy.blk gy hyb
      obtain ⟨a2, e2⟩ := hvb gy hh.symm
      rw [e1] at e2
      injection e2 with e2; injection e2 with _ e2 _
      exact hne e2
  refine ⟨vs ++ [u], by simpa using hrow vs h1, by simp [h3], fun j hj => ?_, Own.nil _ _ _ _, Nat.le_trans hB hg.size, Nat.le_refl _⟩
  rw [getD_snoc ls cur j hj]
  by_cases hlt : j < ls.length
  · rw [if_pos hlt]
    obtain ⟨y, hy, hoy, hyg⟩ := h4 j hlt
    exact ⟨y, by rw [List.getElem?_append_left (by omega)]; exact hy, hkeep hoy, fun g hgg => by have := hyg g hgg; have := hg.size; omega⟩
  · rw [if_neg hlt]
    simp only [List.length_append, List.length_cons, List.length_nil] at hj
    exact ⟨u, by rw [List.getElem?_append_right (by omega), show j - vs.length = 0 from by omega]; rfl, (hkeep h5).mono h6, fun g hgg => by have := (h5.blk g hgg).2.1; have := hg.size; omega⟩
/-- append(v, nil), v such lines -/
theorem wpList_appC {P : Program} {ops : Array Oper} {rest : List Oper} {o : Oper} {a : Act} {Q : Exit → Act → World → Prop} (hgd : o.guard = none) {s x : Operand} {T : TypeId}
    (ho : o.op = .call { callee := .builtin .append, args := #[s, x], argTypes := #[T, T] }) (he : EltS P T e) (hne : e5 ≠ e)
    (hs : a.eval s = v) (hx : a.eval x = .slice (some ⟨w.heap.size, 0, none⟩) 1 1)
    (hown : CurL w B e e5 v ls u cur H) {B0 : Nat} {w0 : World} (hbel : Below B0 w0 w) (hB : B0 ≤ B ∧ B ≤ w.heap.size) (hlen : ls.length + 2 ≤ 1099511627776)
    (h : ∀ v' w', CurL w' B e e5 v' (ls ++ [cur]) (.slice none 0 0) [] w'.heap.size → Below B0 w0 w' → wpList P ops Q rest (a.put o.dst v') w') : wpList P ops Q (o :: rest) a (w.alloc (.cells #[.slice none 0 0] e)) := by
  refine wpList_plain hgd fun K hK => ?_
  obtain ⟨i, hi, hz0, hz1, hz2⟩ := info_parts he.info
  have hown1 := hown.alloc (.cells #[.slice none 0 0] e)
  have hsz : (w.alloc (.cells #[.slice none 0 0] e)).heap.size = w.heap.size + 1 := by simp
  obtain ⟨vs, hrow, hrest⟩ := hown1
  obtain ⟨v', w', hrun, h2, h3, _⟩ := run_append_own (P := P) (w.alloc (.cells #[.slice none 0 0] e)) B T o.type e i (.slice none 0 0) 1 24 he.under hi hz0 hz1 hz2 rfl (by decide) v _ _ hrow ⟨w.heap.size, 0, none⟩ 1 1 [.slice none 0 0] rfl
    (by
      intro j y hy
      match j, hy with
      | 0, hy => simp at hy; subst hy; rw [add_plain]; exact World.cell?_alloc_at _ _ _ _ rfl)
    (by intro y hy; simp at hy; subst hy; rfl)
    (by unfold maxLen; omega) (by omega) (by omega)
  have hown2 : CurL (w.alloc (.cells #[.slice none 0 0] e)) B e e5 v ls u cur H := ⟨vs, hrow, hrest⟩
  have hvb : ∀ k, v.ownBlock = some k → B ≤ k := fun k hk => (hrow.lt k hk).1
  have hfin := hown2.next (w1 := w') (v' := v') hne (by omega) (fun vs2 h5 => by
    have e1 : vs2 ++ [u] = vs ++ [u] := by
      have a1 := h5.2
      have a2 := hrow.2
      rcases a1 with ⟨_, hn⟩ | ⟨g, cap, arr, hv, _, hh, _, _, _, ht⟩
      · omega
      · rcases a2 with ⟨_, hn⟩ | ⟨g', cap', arr', hv', _, hh', _, _, _, ht'⟩
        · omega
        · rw [hv] at hv'
          injection hv' with hv' _ _; injection hv' with hv'; injection hv' with hv' _ _
          subst hv'
          rw [hh] at hh'
          injection hh' with hh'; injection hh' with hh' _ _
          subst hh'
          rw [← ht, ← ht']
    rw [e1]; simpa using h2) h3
  have hb1 : Below B (w.alloc (.cells #[.slice none 0 0] e)) w' := (Below.refl _ _).grown h3 (by omega) hvb
  unfold Oper.wp execOp
  simp only [ho, resolve, invoke, builtin, Sem.run_bind, Sem.run_pure, Result.andThen_ok, List.map_toArray, List.map_cons, List.map_nil, hs, hx, hrun]
  exact hK _ _ (h v' w' hfin ((hbel.alloc (by have := hbel.size; omega) _).trans (hb1.mono hB.1)))
/-- all its lines, and but the last one -/
theorem CurL.lns (h : CurL w B e e5 v ls u cur H) (m : Nat) (hm : m = ls.length ∨ m = ls.length + 1) : ∃ g c, v = .slice (some ⟨g, 0, none⟩) (ls.length + 1) c ∧ Lns w (some ⟨g, 0, none⟩) m c (if m = ls.length then ls else ls ++ [cur]) := by
  obtain ⟨g, c, hv, hgs, hgB, hcell, _, hlc, hcm⟩ := h.at_
  obtain ⟨vs, h1, h3, h4, h5, h6, h7⟩ := h
  refine ⟨g, c, hv, ?_, by omega, hcm, by simp, fun hn => ⟨g, 0, rfl, hgs, fun j hj => ?_⟩⟩
  · rcases hm with rfl | rfl <;> simp
  subst hv
  have hcj := h1.cellAt j (by simp; omega)
  rw [Nat.zero_add, hcj]
  by_cases hlt : j < ls.length
  · obtain ⟨y, hy, hoy, _⟩ := h4 j hlt
    obtain ⟨A', n', c', rfl, hs⟩ := hoy.sl
    refine ⟨A', n', c', ?_, ?_⟩
    · have : (vs ++ [u])[j]? = some (.slice A' n' c') := by rw [List.getElem?_append_left (by omega)]; exact hy
      first | (rw [this]) | (simpa using this) | (simp [List.getElem?_append_left (show j < vs.length from by omega), hy])
    · have : (if m = ls.length then ls else ls ++ [cur]).getD j [] = ls.getD j [] := by
        split
        · rfl
        · rw [getD_snoc ls cur j (by simp; omega), if_pos hlt]
      rw [this]; exact hs
  · have hj' : j = ls.length := by omega
    have hm' : ¬ m = ls.length := by omega
    obtain ⟨A', n', c', rfl, hs⟩ := h5.sl
    refine ⟨A', n', c', ?_, ?_⟩
    · subst hj'; simp [← h3]
    · rw [if_neg hm', getD_snoc ls cur j (by simp; omega), if_neg hlt]; exact hs
end
end Go.Proofs.Ytibnmekifaaacaa
