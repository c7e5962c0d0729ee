/- Layer 11: a name in whichever case, with blanks and a language, leads back to it; a text's octets as a row of their own; append to a full slice. No condition: plain lemmas. -/
import Derived.Test.YtkphnhbblbamgaaDoor11C
import Derived.Lib.ConvBytes
import Derived.Deep.RegionLawGrows
namespace Go.Proofs.YtkphnhbblbamgaaDoor
open Go.RowKit Go.Maps Go.WideMaps

/-! plain -/
def okC (c : Int) : Bool := decide (c ≠ 42) && !blkB c && decide (lowL c = c) && decide (0 ≤ c ∧ c ≤ 255) && (!decide (97 ≤ c ∧ c ≤ 122) || (decide (c - 32 ≠ 42) && !blkB (c - 32) && decide (lowL (c - 32) = c)))
theorem nm_ok (k : Int) : ∀ x ∈ nmL k, ∀ c ∈ x, okC c = true := by
  unfold nmL
  repeat' split
  all_goals decide
theorem nm_ne (k : Int) : ∀ x ∈ nmL k, x ≠ [] := by
  unfold nmL
  repeat' split
  all_goals decide
theorem nm_pos (k : Int) (x : List Int) (h : x ∈ nmL k) : k ≠ 0 := by
  intro e; subst e; exact absurd h (by simp [nmL])
/-- an octet as it was, or a capital letter of it -/
def UpC (a b : Int) : Prop := b = a ∨ (97 ≤ a ∧ a ≤ 122 ∧ b = a - 32)
theorem upC_ok {a b : Int} (h : UpC a b) (ha : okC a = true) : b ≠ 42 ∧ blkB b = false ∧ lowL b = a ∧ 0 ≤ b ∧ b ≤ 255 := by
  unfold okC at ha
  simp only [Bool.and_eq_true, decide_eq_true_eq, Bool.not_eq_true', Bool.or_eq_true, decide_eq_false_iff_not] at ha
  obtain ⟨⟨⟨⟨h1, h2⟩, h3⟩, h4⟩, h5⟩ := ha
  rcases h with rfl | ⟨h6, h7, rfl⟩
  · exact ⟨h1, h2, h3, h4.1, h4.2⟩
  · rcases h5 with h5 | h5
    · exact absurd ⟨h6, h7⟩ h5
    · exact ⟨h5.1.1, h5.1.2, h5.2, by omega, by omega⟩
theorem up_all {x ys : List Int} (hl : ys.length = x.length) (hx : ∀ c ∈ x, okC c = true) (h : ∀ j, j < x.length → UpC (x.getD j 0) (ys.getD j 0)) :
    fldL ys = x ∧ ∀ b ∈ ys, b ≠ 42 ∧ blkB b = false := by
  induction x generalizing ys with
  | nil =>
    obtain rfl : ys = [] := List.eq_nil_of_length_eq_zero hl
    exact ⟨rfl, by simp⟩
  | cons a x ih =>
    cases ys with
    | nil => simp at hl
    | cons b ys =>
      have h0 := upC_ok (h 0 (by simp)) (hx a (List.mem_cons_self ..))
      simp only [List.getD_cons_zero] at h0
      obtain ⟨i1, i2⟩ := ih (ys := ys) (by simpa using hl) (fun c hc => hx c (List.mem_cons_of_mem _ hc)) (fun j hj => by
        have := h (j + 1) (by simp only [List.length_cons]; omega)
        simpa using this)
      refine ⟨?_, ?_⟩
      · show lowL b :: fldL ys = _
        rw [i1, h0.2.2.1]
      · intro z hz
        rcases List.mem_cons.1 hz with rfl | hz
        · exact ⟨h0.1, h0.2.1⟩
        · exact i2 z hz
theorem cutS_app (l r : List Int) (h : ∀ b ∈ l, b ≠ 42) : cutS (l ++ 42 :: r) = l := by
  induction l with
  | nil => simp [cutS]
  | cons a l ih =>
    rw [List.cons_append, cutS, if_neg (h a (List.mem_cons_self ..)), ih (fun b hb => h b (List.mem_cons_of_mem _ hb))]
theorem rdr_all (l : List Int) (h : ∀ b ∈ l, blkB b = false) : rdr l = l := by
  induction l with
  | nil => rfl
  | cons a l ih =>
    have e := ih (fun b hb => h b (List.mem_cons_of_mem _ hb))
    unfold rdr
    rw [e]
    split
    · rename_i h0
      rw [h a (List.mem_cons_self ..), h0]; rfl
    · rfl
theorem lead_key {x ys bs : List Int} (hne : x ≠ []) (hl : ys.length = x.length) (hx : ∀ c ∈ x, okC c = true) (h : ∀ j, j < x.length → UpC (x.getD j 0) (ys.getD j 0)) :
    keyN ((([32, 9] ++ ys) ++ [32, 42]) ++ bs) = x := by
  obtain ⟨h1, h2⟩ := up_all hl hx h
  have e : (([32, 9] ++ ys) ++ [32, 42]) ++ bs = ([32, 9] ++ ys ++ [32]) ++ 42 :: bs := by simp
  unfold keyN bareL
  rw [e, cutS_app _ _ (by
    intro b hb
    simp only [List.mem_append, List.mem_cons, List.not_mem_nil, or_false] at hb
    rcases hb with ((rfl | rfl) | hb) | rfl
    · decide
    · decide
    · exact (h2 b hb).1
    · decide)]
  have e2 : tbL ([32, 9] ++ ys ++ [32]) = ys := by
    cases ys with
    | nil => exact absurd (List.eq_nil_of_length_eq_zero hl.symm) hne
    | cons a ys =>
      unfold tbL
      have : ldr ([32, 9] ++ (a :: ys) ++ [32]) = (a :: ys) ++ [32] := by
        show ldr (32 :: 9 :: (a :: (ys ++ [32]))) = _
        rw [ldr_yes (by decide), ldr_yes (by decide), ldr_no ((h2 a (List.mem_cons_self ..)).2)]
        rfl
      rw [this, rdr_snoc, if_pos (by decide), rdr_all _ (fun b hb => (h2 b hb).2)]
  rw [e2, h1]
theorem lead_num {k : Int} {x : List Int} (h : x ∈ nmL k) : csNum x = k ∧ csE x = 0 := by
  have h1 := cs_mem h
  have h2 := nm_pos k x h
  exact ⟨h1, csE_some (by rw [h1]; exact h2)⟩
/-- the codings' own names -/
theorem code_num (k : Int) : (1 ≤ k ∧ k ≤ 3 ∧ cdNum (keyC (cdL k)) = k ∧ cdE (keyC (cdL k)) = 0) ∨ (¬ (1 ≤ k ∧ k ≤ 3) ∧ cdNum (keyC (cdL k)) = 0 ∧ cdE (keyC (cdL k)) = 11) := by
  by_cases h1 : k = 1
  · subst h1; exact .inl (by decide)
  by_cases h2 : k = 2
  · subst h2; exact .inl (by decide)
  by_cases h3 : k = 3
  · subst h3; exact .inl (by decide)
  · have e : cdL k = [] := by unfold cdL; rw [if_neg h1, if_neg h2, if_neg h3]
    rw [e]
    exact .inr ⟨by omega, by decide, by decide⟩
theorem cdL_size (k : Int) : (cdL k).length ≤ 20 := by
  unfold cdL
  repeat' split
  all_goals decide

/-! memory -/
theorem Sl.ofStr (w : World) (E : TypeId) {s : ByteArray} {x : List Int} (hx : strOfNums x = s) (hwf : ∀ a ∈ x, (Lit.int .u8 a).wf = true) (hl : x.length ≤ 20) :
    Sl (Lib.bytesWorld w E s) .u8 (some ⟨w.heap.size, 0, none⟩) x.length (grownCap w x.length 0 E) x ∧ s.size = x.length ∧ Below w.heap.size w (Lib.bytesWorld w E s) ∧
      (∀ j, j < x.length → (Lib.bytesWorld w E s).frozen? ⟨w.heap.size, j, none⟩ = false) ∧ (Lib.bytesWorld w E s).heap.size = w.heap.size + 1 := by
  have hsz : s.size = x.length := by rw [← hx]; simp [strOfNums, ByteArray.size]
  have hd : natL s.data.toList = x := by
    rw [← hx]
    have e : (strOfNums x).data.toList = Lib.bytesOf x := by simp [strOfNums, Lib.bytesOf]
    rw [e]; exact natL_bytesOf hwf
  have hcap := grownCap_ge w x.length 0 E
  refine ⟨⟨rfl, hcap, grownCap_le_maxLen w x.length 0 E (by unfold maxLen; omega), by simp, hwf, fun _ => ⟨w.heap.size, 0, rfl, by rw [Lib.bytesWorld_size]; omega, fun j hj => ?_⟩⟩, hsz, ?_, ?_, Lib.bytesWorld_size w E s⟩
  · rw [Nat.zero_add, Lib.bytesWorld_cell w E s j (by omega)]
    congr 2
    rw [← hd]
    have hj2 : j < s.data.toList.length := by
      have := congrArg List.length hd
      simp only [natL, List.length_map] at this
      omega
    simp [natL, List.getD_eq_getElem?_getD, List.getElem?_map]
    cases s.data[j]? <;> rfl
  · refine ⟨rfl, rfl, rfl, by rw [Lib.bytesWorld_size]; omega, fun k hk => Lib.bytesWorld_at_old w E s k hk⟩
  · intro j hj
    unfold World.frozen?
    rw [Lib.bytesWorld_at_new w E s]
    have : s.size ≤ (Lib.bytesCells w E s).size := by
      unfold Lib.bytesCells
      rw [Array.size_append, Array.size_map]
      show s.data.size ≤ _
      omega
    simp; omega
theorem Sl.set {w : World} {b n c j : Nat} {ys : List Int} {u : Int} (h : Sl w .u8 (some ⟨b, 0, none⟩) n c ys) (hj : j < n) (hu : (Lit.int .u8 u).wf = true) : Sl (w.setCell ⟨b, j, none⟩ (.int .u8 u)) .u8 (some ⟨b, 0, none⟩) n c (ys.set j u) := by
  have hl := h.len
  refine ⟨by simp [hl], h.le, h.cm, by simp, fun x hx => ?_, fun hn => ?_⟩
  · rcases List.mem_or_eq_of_mem_set hx with hx | hx
    · exact h.wf x hx
    · subst hx; exact hu
  · refine ⟨b, 0, rfl, by rw [World.size_setCell]; exact h.lt hn, fun i hi => ?_⟩
    have hc := h.cell hi
    rw [Nat.zero_add] at hc ⊢
    by_cases e : i = j
    · subst e
      rw [World.cell?_setCell_same w _ _ hc]
      simp [List.getD_eq_getElem?_getD, hl, hi]
    · rw [World.cell?_setCell_other w _ _ _ (fun e' => e (by injection e' with _ e2 _; exact e2.symm)), hc]
      simp [List.getD_eq_getElem?_getD, List.getElem?_set, Ne.symm e]

theorem sl_cells {w : World} {k : IntKind} {b o n c : Nat} {xs : List Int} (h : Sl w k (some ⟨b, o, none⟩) n c xs) : ∀ j u, (xs.map (Value.int k))[j]? = some u → w.cell? ((⟨b, o, none⟩ : Addr).add j) = some u := by
  intro j u hu
  have hl := h.len
  have hj : j < n := by
    rcases Nat.lt_or_ge j n with h | h
    · exact h
    · rw [List.getElem?_eq_none (by simp [hl]; omega)] at hu; cases hu
  have hadd : (⟨b, o, none⟩ : Addr).add j = ⟨b, o + j, none⟩ := by unfold Addr.add; split <;> simp_all
  rw [hadd, h.cell hj]
  have hjl : j < xs.length := by omega
  simp [hjl] at hu
  simp [hjl, hu]
theorem run_app_full {P : Program} {w : World} {T E : TypeId} {k : IntKind} {bytes : Nat} (ty : TypeId) (he : Elt P T E k bytes) {b o n m c : Nat} {A : Option Addr} {xs ys : List Int}
    (h1 : Sl w k (some ⟨b, o, none⟩) n n xs) (h2 : Sl w k A m c ys) (hm : 0 < m) (hlen : n + m ≤ 1099511627776) (hby : bytes ≤ 64) :
    ∃ v' w', (Builtin.append_ #[T, T] ty #[.slice (some ⟨b, o, none⟩) n n, .slice A m c]).run P w = .ok v' w' ∧ Own w' w.heap.size E k v' (xs ++ ys) ∧ Below w.heap.size w w' := by
  obtain ⟨i, hi, hz0, hz1, hz2⟩ := info_parts he.info
  obtain ⟨b2, o2, rfl, _⟩ := h2.form hm
  have hl1 := h1.len
  have hl2 := h2.len
  have hbb : (n + m) * bytes ≤ 1099511627776 * 64 := Nat.mul_le_mul hlen hby
  have hr := run_append_grow (P := P) w T ty E i (.int k 0) he.under hi hz0 ⟨b, o, none⟩ n n (xs.map (Value.int k)) (by rw [hz1]; simp [hl1]) (sl_cells h1) ⟨b2, o2, none⟩ m c (ys.map (Value.int k)) (by rw [hz1]; simp [hl2]) (sl_cells h2)
    (by omega) (by omega) (by rw [hz2]; exact growslice_fits (by omega) (by omega))
  have hge := grownCap_ge w (n + m) n E
  have hcm : grownCap w (n + m) n E ≤ maxLen := grownCap_le_maxLen w (n + m) n E (by unfold maxLen; omega)
  refine ⟨_, _, hr, ⟨⟨by simp, .inr ⟨w.heap.size, _, _, by rw [List.length_append, hl1, hl2], Nat.le_refl _, heap_alloc_new w.drew _, by rw [List.length_append, hl1, hl2]; exact hge, hcm, ?_, ?_⟩⟩, ?_⟩, ?_⟩
  · simp only [Array.size_append, List.size_toArray, size_zeroCells, List.length_map, hl1, hl2]
    simp [Value.cells]; omega
  · simp only [Array.toList_append, List.append_assoc]
    rw [← List.append_assoc, List.map_append]
    have e : (xs ++ ys).length * 1 = (xs.map (Value.int k) ++ ys.map (Value.int k)).length := by simp
    rw [e]
    exact List.take_left
  · intro x hx
    rcases List.mem_append.1 hx with hx | hx
    · exact h1.wf x hx
    · exact h2.wf x hx
  · exact (Below.refl _ _).drew.alloc (Nat.le_refl _) _
/-- append(v, src...), v full -/
theorem wpList_appF {P : Program} {w : World} {ops : Array Oper} {rest : List Oper} {o : Oper} {a : Act} {Q : Exit → Act → World → Prop} (hgd : o.guard = none) {s x : Operand} {T : TypeId}
    (ho : o.op = .call { callee := .builtin .append, args := #[s, x], argTypes := #[T, T] }) {E : TypeId} {k : IntKind} {bytes : Nat} (he : Elt P T E k bytes) (hby : bytes ≤ 64)
    {b p n m c : Nat} {A : Option Addr} {xs ys : List Int} (hs : a.eval s = .slice (some ⟨b, p, none⟩) n n) (hx : a.eval x = .slice A m c)
    (h1 : Sl w k (some ⟨b, p, none⟩) n n xs) (h2 : Sl w k A m c ys) (hm : 0 < m) (hlen : n + m ≤ 1099511627776)
    (h : ∀ v' w', Own w' w.heap.size E k v' (xs ++ ys) → Below w.heap.size w w' → wpList P ops Q rest (a.put o.dst v') w') : wpList P ops Q (o :: rest) a w := by
  refine wpList_plain hgd fun K hK => ?_
  obtain ⟨v', w', hrun, h3, h4⟩ := run_app_full (P := P) o.type he h1 h2 hm hlen hby
  unfold Oper.wp execOp
  simp only [ho, resolve, invoke, builtin, Sem.run_bind, Sem.run_pure, Result.andThen_ok, List.map_toArray, List.map_cons, List.map_nil, hs, hx, hrun]
  exact hK _ _ (h v' w' h3 h4)
end Go.Proofs.YtkphnhbblbamgaaDoor
