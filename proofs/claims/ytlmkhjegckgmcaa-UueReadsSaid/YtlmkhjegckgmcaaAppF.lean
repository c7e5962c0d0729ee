/- append to a slice that is full; a line alone, and two lines more, among the call's own lines. No condition: plain lemmas. -/
import Derived.Test.YtlmkhjegckgmcaaRowl
import Derived.Deep.RegionLawGrows
namespace Go.Proofs.Ytlmkhjegckgmcaa
open Go.RowKit

theorem sl_cells {w : World} {k : IntKind} {b o n c : Nat} {xs : List Int} (h : Sl w k (some ⟨b, o, none⟩) n c xs) : ∀ j u, (xs.map (Value.int k))[j]? = some u → w.cell? ((⟨b, o, none⟩ : Addr).add j) = some u := by
  intro j u hu
  have hl := h.len
  have hj : j < n := by
    rcases Nat.lt_or_ge j n with h | h
    · exact h
    · rw [List.getElem?_eq_none (by simp [hl]; omega)] at hu; cases hu
  rw [add_plain, h.cell hj]
  have hjl : j < xs.length := by omega
  simp [hjl] at hu
  simp [hjl, hu]
theorem run_app_full {P : Program} {w : World} {T E : TypeId} {k : IntKind} {bytes : Nat} (ty : TypeId) (he : Elt P T E k bytes) {b o n m c : Nat} {A : Option Addr} {xs ys : List Int}
    (h1 : Sl w k (some ⟨b, o, none⟩) n n xs) (h2 : Sl w k A m c ys) (hm : 0 < m) (hlen : n + m ≤ 1099511627776) (hby : bytes ≤ 64) :
    ∃ v' w', (Builtin.append_ #[T, T] ty #[.slice (some ⟨b, o, none⟩) n n, .slice A m c]).run P w = .ok v' w' ∧ Own w' w.heap.size E k v' (xs ++ ys) ∧ Below w.heap.size w w' := by
  obtain ⟨i, hi, hz0, hz1, hz2⟩ := info_parts he.info
  obtain ⟨b2, o2, rfl, _⟩ := h2.form hm
  have hl1 := h1.len
  have hl2 := h2.len
  have hbb : (n + m) * bytes ≤ 1099511627776 * 64 := Nat.mul_le_mul hlen hby
  have hr := run_append_grow (P := P) w T ty E i (.int k 0) he.under hi hz0 ⟨b, o, none⟩ n n (xs.map (Value.int k)) (by rw [hz1]; simp [hl1]) (sl_cells h1) ⟨b2, o2, none⟩ m c (ys.map (Value.int k)) (by rw [hz1]; simp [hl2]) (sl_cells h2)
    (by omega) (by omega) (by rw [hz2]; exact growslice_fits (by omega) (by omega))
  have hge := grownCap_ge w (n + m) n E
  have hcm : grownCap w (n + m) n E ≤ maxLen := grownCap_le_maxLen w (n + m) n E (by unfold maxLen; omega)
  refine ⟨_, _, hr, ⟨⟨by simp, .inr ⟨w.heap.size, _, _, by rw [List.length_append, hl1, hl2], Nat.le_refl _, heap_alloc_new w.drew _, by rw [List.length_append, hl1, hl2]; exact hge, hcm, ?_, ?_⟩⟩, ?_⟩, ?_⟩
  · simp only [Array.size_append, List.size_toArray, size_zeroCells, List.length_map, hl1, hl2]
    simp [Value.cells]; omega
  · simp only [Array.toList_append, List.append_assoc]
    rw [← List.append_assoc, List.map_append]
    have e : (xs ++ ys).length * 1 = (xs.map (Value.int k) ++ ys.map (Value.int k)).length := by simp
    rw [e]
    exact List.take_left
  · intro x hx
    rcases List.mem_append.1 hx with hx | hx
    · exact h1.wf x hx
    · exact h2.wf x hx
  · exact (Below.refl _ _).drew.alloc (Nat.le_refl _) _
/-- append(v, src...), v full -/
theorem wpList_appF {P : Program} {w : World} {ops : Array Oper} {rest : List Oper} {o : Oper} {a : Act} {Q : Exit → Act → World → Prop} (hgd : o.guard = none) {s x : Operand} {T : TypeId}
    (ho : o.op = .call { callee := .builtin .append, args := #[s, x], argTypes := #[T, T] }) {E : TypeId} {k : IntKind} {bytes : Nat} (he : Elt P T E k bytes) (hby : bytes ≤ 64)
    {b p n m c : Nat} {A : Option Addr} {xs ys : List Int} (hs : a.eval s = .slice (some ⟨b, p, none⟩) n n) (hx : a.eval x = .slice A m c)
    (h1 : Sl w k (some ⟨b, p, none⟩) n n xs) (h2 : Sl w k A m c ys) (hm : 0 < m) (hlen : n + m ≤ 1099511627776)
    (h : ∀ v' w', Own w' w.heap.size E k v' (xs ++ ys) → Below w.heap.size w w' → wpList P ops Q rest (a.put o.dst v') w') : wpList P ops Q (o :: rest) a w := by
  refine wpList_plain hgd fun K hK => ?_
  obtain ⟨v', w', hrun, h3, h4⟩ := run_app_full (P := P) o.type he h1 h2 hm hlen hby
  unfold Oper.wp execOp
  simp only [ho, resolve, invoke, builtin, Sem.run_bind, Sem.run_pure, Result.andThen_ok, List.map_toArray, List.map_cons, List.map_nil, hs, hx, hrun]
  exact hK _ _ (h v' w' h3 h4)

/-- a new row of one line -/
theorem OwnL.one {w : World} {B : Nat} {E : TypeId} {u : Value} {xs : List Int} (hl : Ln w B E u xs) (hB : B ≤ w.heap.size) : OwnL (w.alloc (.cells #[u] E)) B E (.slice (some ⟨w.heap.size, 0, none⟩) 1 1) [xs] := by
  have h := World.ownsRow_lit (base := B) (e := E) (size := 1) w #[u] 1 hB (by unfold maxLen; omega) (by simp)
  refine ⟨[u], by simpa using h, fun j hj => ?_⟩
  have : j = 0 := by simpa using hj
  subst this
  exact ⟨u, rfl, hl.below ((Below.refl _ _).alloc (Nat.le_refl _) _)⟩

theorem getD_snoc2 (ls : List (List Int)) (xs ys : List Int) (j : Nat) (hj : j < (ls ++ [xs, ys]).length) : (ls ++ [xs, ys]).getD j [] = if j < ls.length then ls.getD j [] else if j = ls.length then xs else ys := by
  have e : ls ++ [xs, ys] = (ls ++ [xs]) ++ [ys] := by simp
  rw [e] at hj ⊢
  rw [getD_snoc _ _ _ hj]
  by_cases h : j < (ls ++ [xs]).length
  · rw [if_pos h, getD_snoc _ _ _ h]
    simp only [List.length_append, List.length_cons, List.length_nil] at h
    by_cases h2 : j < ls.length
    · rw [if_pos h2, if_pos h2]
    · rw [if_neg h2, if_neg h2, if_pos (by omega)]
  · rw [if_neg h]
    simp only [List.length_append, List.length_cons, List.length_nil] at h
    rw [if_neg (by omega), if_neg (by omega)]
/-- append(v, x, y), v the call's own lines, x and y lines -/
theorem wpList_appL2 {P : Program} {w : World} {ops : Array Oper} {rest : List Oper} {o : Oper} {a : Act} {Q : Exit → Act → World → Prop} (hgd : o.guard = none) {s x : Operand} {T : TypeId}
    (ho : o.op = .call { callee := .builtin .append, args := #[s, x], argTypes := #[T, T] }) {B : Nat} {E : TypeId} (he : EltS P T E)
    {v : Value} {ls : List (List Int)} {u u2 : Value} {xs ys : List Int} (hs : a.eval s = v) (hx : a.eval x = .slice (some ⟨w.heap.size, 0, none⟩) 2 2)
    (hown : OwnL w B E v ls) (hln : Ln w B E u xs) (hln2 : Ln w B E u2 ys) {B0 : Nat} {w0 : World} (hbel : Below B0 w0 w) (hB : B0 ≤ B ∧ B ≤ w.heap.size) (hlen : ls.length + 2 ≤ 1099511627776)
    (h : ∀ v' w', OwnL w' B E v' (ls ++ [xs, ys]) → Below B0 w0 w' → wpList P ops Q rest (a.put o.dst v') w') : wpList P ops Q (o :: rest) a (w.alloc (.cells #[u, u2] E)) := by
  refine wpList_plain hgd fun K hK => ?_
  obtain ⟨i, hi, hz0, hz1, hz2⟩ := info_parts he.info
  have hown1 := hown.alloc (.cells #[u, u2] E)
  have hln1 := hln.below ((Below.refl w.heap.size w).alloc (Nat.le_refl _) (.cells #[u, u2] E))
  have hln3 := hln2.below ((Below.refl w.heap.size w).alloc (Nat.le_refl _) (.cells #[u, u2] E))
  obtain ⟨vs, hrow, hall⟩ := hown1
  obtain ⟨v', w', hrun, h2, h3, _⟩ := run_append_own (P := P) (w.alloc (.cells #[u, u2] E)) B T o.type E i (.slice none 0 0) 1 24 he.under hi hz0 hz1 hz2 rfl (by decide) v _ _ hrow ⟨w.heap.size, 0, none⟩ 2 2 [u, u2] rfl
    (by
      intro j y hy
      match j, hy with
      | 0, hy => simp at hy; subst hy; rw [add_plain]; exact World.cell?_alloc_at _ _ _ _ rfl
      | 1, hy => simp at hy; subst hy; rw [add_plain]; exact World.cell?_alloc_at _ _ _ _ rfl)
    (by
      intro y hy
      simp at hy
      rcases hy with rfl | rfl
      · obtain ⟨A, n, c, rfl, _⟩ := hln; rfl
      · obtain ⟨A, n, c, rfl, _⟩ := hln2; rfl)
    (by unfold maxLen; omega) (by omega) (by simp; omega)
  have hrw : ∀ g, v.ownBlock = some g → B ≤ g ∧ ∃ arr fr, (w.alloc (.cells #[u, u2] E)).heap[g]? = some (.cells arr E fr) := by
    intro g hg
    rcases hrow.2 with ⟨rfl, _⟩ | ⟨g', cap, cur, rfl, hb, hh, _⟩
    · simp [Value.ownBlock] at hg
    · simp [Value.ownBlock] at hg
      subst hg
      exact ⟨hb, cur, (0, 0), hh⟩
  have hfin : OwnL w' B E v' (ls ++ [xs, ys]) := by
    refine ⟨vs ++ [u, u2], by simpa using h2, fun j hj => ?_⟩
    rw [getD_snoc2 ls xs ys j hj]
    have hvl : vs.length = ls.length := by simpa using hrow.1
    by_cases hlt : j < ls.length
    · rw [if_pos hlt]
      obtain ⟨y, hy, hl⟩ := hall j hlt
      exact ⟨y, by rw [List.getElem?_append_left (by omega)]; exact hy, hl.kept h3 hrw⟩
    · rw [if_neg hlt]
      by_cases he2 : j = ls.length
      · rw [if_pos he2]
        exact ⟨u, by rw [List.getElem?_append_right (by omega), show j - vs.length = 0 from by omega]; rfl, hln1.kept h3 hrw⟩
      · rw [if_neg he2]
        simp only [List.length_append, List.length_cons, List.length_nil] at hj
        exact ⟨u2, by rw [List.getElem?_append_right (by omega), show j - vs.length = 1 from by omega]; rfl, hln3.kept h3 hrw⟩
  unfold Oper.wp execOp
  simp only [ho, resolve, invoke, builtin, Sem.run_bind, Sem.run_pure, Result.andThen_ok, List.map_toArray, List.map_cons, List.map_nil, hs, hx, hrun]
  refine hK _ _ (h v' w' hfin ?_)
  have hb1 : Below B (w.alloc (.cells #[u, u2] E)) w' := (Below.refl _ _).grown h3 (by simp; omega) fun k hk => (hrw k hk).1
  exact ((hbel.alloc (by have := hbel.size; omega) _).trans (hb1.mono hB.1))
end Go.Proofs.Ytlmkhjegckgmcaa
