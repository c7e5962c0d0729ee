/- Layer 47: append of a text to a slice of octets that the call may append to. No condition: plain lemmas. -/
import Derived.Test.Ytjiofcnlibkhkaa47F
import Derived.Lib.AppendStr
namespace Go.Proofs.Ytjiofcnlibkhkaa
open Go.RowKit

theorem strCells_nums {ys : List Int} (h : ∀ x ∈ ys, (Lit.int .u8 x).wf = true) : Lib.strCells (strOfNums ys) = ys.map (Value.int .u8) := by
  unfold Lib.strCells
  have e : (strOfNums ys).data.toList = Lib.bytesOf ys := by simp [strOfNums, Lib.bytesOf]
  have h2 := natL_bytesOf h
  rw [e]
  unfold natL at h2
  conv => rhs; rw [← h2]
  rw [List.map_map]
  rfl
theorem run_room_str {P : Program} {w : World} (t u ty e : TypeId) (i : TypeInfo) (ht : P.underlying t = some (.slice e)) (hu : P.underlying u = some .string) (hi : P.info? e = some i) (hs1 : i.size = 1)
    (b sLen sCap : Nat) (s : ByteArray) (hroom : sLen + s.size ≤ sCap) (hc : ∀ j, j < (Lib.strCells s).length → (w.cell? ⟨b, sLen + j, none⟩).isSome = true) (hf : ∀ j, j < (Lib.strCells s).length → w.frozen? ⟨b, sLen + j, none⟩ = false) :
    (Builtin.append_ #[t, u] ty #[.slice (some ⟨b, 0, none⟩) sLen sCap, .string s]).run P w = .ok (.slice (some ⟨b, 0, none⟩) (sLen + s.size) sCap) (w.setCells b sLen (Lib.strCells s)) := by
  have hfc := Lib.run_firstCells_string (P := P) w 1 s
  have hst := run_storeCells_cells (P := P) b sLen (Lib.strCells s) 0 w (by simpa using hc) (by simpa using hf) (Lib.strCells_oneCell s)
  simp only [Nat.add_zero] at hst
  simp [Builtin.append_, run_underlying ht, run_underlying hu, sizeOf, typeInfo, hi, hs1, Builtin.lenOf, hroom, hfc, Addr.add_lit, hst]
/-- append(v, s...), v such a slice, s a text -/
theorem wpList_appAS {P : Program} {w : World} {ops : Array Oper} {rest : List Oper} {o : Oper} {a : Act} {Q : Exit → Act → World → Prop} (hgd : o.guard = none) {s x : Operand} {T U : TypeId}
    (ho : o.op = .call { callee := .builtin .append, args := #[s, x], argTypes := #[T, U] }) {E : TypeId} {bytes : Nat} (he : Elt P T E .u8 bytes) (hU : P.underlying U = some .string) (hby : bytes ≤ 64)
    {B : Nat} {v : Value} {xs ys : List Int} {st : ByteArray} (hs : a.eval s = v) (hx : a.eval x = .string st) (hst : strOfNums ys = st) (hwy : ∀ x ∈ ys, (Lit.int .u8 x).wf = true)
    (hown : App w B v xs) (hm : 0 < ys.length) (hB : B ≤ w.heap.size) (hlen : xs.length + ys.length ≤ 1000000)
    (h : ∀ v' w', App w' B v' (xs ++ ys) → Below B w w' → wpList P ops Q rest (a.put o.dst v') w') : wpList P ops Q (o :: rest) a w := by
  obtain ⟨i, hi, hz0, hz1, hz2⟩ := info_parts he.info
  obtain ⟨g, cap, rfl, hBg, hg, hn, hc, hcell, hsp, hwf⟩ := hown
  subst hst
  have hsz : (strOfNums ys).size = ys.length := by simp [strOfNums, ByteArray.size]
  have hsc := strCells_nums hwy
  have hwf2 : ∀ x ∈ xs ++ ys, (Lit.int .u8 x).wf = true := by
    intro x hx
    rcases List.mem_append.1 hx with hx | hx
    · exact hwf x hx
    · exact hwy x hx
  have key : ∃ v' w', (Builtin.append_ #[T, U] o.type #[.slice (some ⟨g, 0, none⟩) xs.length cap, .string (strOfNums ys)]).run P w = .ok v' w' ∧ App w' B v' (xs ++ ys) ∧ Below B w w' := by
    by_cases hr : xs.length + ys.length ≤ cap
    · have hrun := run_room_str (P := P) (w := w) T U o.type E i he.under hU hi hz1 g xs.length cap (strOfNums ys) (by omega)
        (fun j hj => by rw [hsc, List.length_map] at hj; exact (hsp (xs.length + j) (by omega) (by omega)).1)
        (fun j hj => by rw [hsc, List.length_map] at hj; exact (hsp (xs.length + j) (by omega) (by omega)).2)
      rw [hsc, hsz] at hrun
      have hb := below_setCells (a := w) hBg (ys.map (Value.int .u8)) xs.length w (Below.refl _ _)
      have hin := World.cell?_setCells_in g (ys.map (Value.int .u8)) xs.length w (fun j hj => by
        simp only [List.length_map] at hj
        exact (hsp (xs.length + j) (by omega) (by omega)).1)
      have hout := World.cell?_setCells_out g (ys.map (Value.int .u8)) xs.length w
      refine ⟨_, _, hrun, ⟨g, cap, by rw [List.length_append], hBg, Nat.lt_of_lt_of_le hg hb.size, by rw [List.length_append]; exact hr, hc, fun j hj => ?_, fun j h1 h2 => ?_, hwf2⟩, hb⟩
      · rw [List.length_append] at hj
        by_cases hjx : j < xs.length
        · rw [hout ⟨g, j, none⟩ (fun _ _ => .inl (by simp; omega)), hcell j hjx]
          simp [List.getD_eq_getElem?_getD, List.getElem?_append, hjx]
        · obtain ⟨q, rfl⟩ : ∃ q, j = xs.length + q := ⟨j - xs.length, by omega⟩
          have hq : q < ys.length := by omega
          rw [hin q (by simpa using hq)]
          simp [List.getD_eq_getElem?_getD, hq]
      · rw [List.length_append] at h1
        rw [hout ⟨g, j, none⟩ (fun _ _ => .inr (by simp; omega)), World.frozen?_setCells]
        exact hsp j (by omega) h2
    · have hsl : Sl w .u8 (some ⟨g, 0, none⟩) xs.length cap xs := ⟨rfl, hn, hc, by simp, hwf, fun _ => ⟨g, 0, rfl, hg, fun j hj => by rw [Nat.zero_add]; exact hcell j hj⟩⟩
      have hbb : (xs.length + ys.length) * bytes ≤ 1000000 * 64 := Nat.mul_le_mul hlen hby
      have hrun := Lib.run_append_grow_string (P := P) w T U o.type E i (.int .u8 0) he.under hU hi hz0 ⟨g, 0, none⟩ xs.length cap (xs.map (Value.int .u8)) (by rw [hz1]; simp)
        (fun j u hu => by
          have hj : j < xs.length := by
            rcases Nat.lt_or_ge j xs.length with h | h
            · exact h
            · rw [List.getElem?_eq_none (by simp; omega)] at hu; cases hu
          have hadd : (⟨g, 0, none⟩ : Addr).add j = ⟨g, 0 + j, none⟩ := by unfold Addr.add; split <;> simp_all
          rw [hadd, Nat.zero_add, hcell j hj]
          simp [hj] at hu
          simp [hj, hu]) (strOfNums ys) (by omega) (by omega) (by rw [hz2]; exact growslice_fits (by omega) (by rw [hsz]; omega))
      rw [hsc, hsz] at hrun
      have hge := grownCap_ge w (xs.length + ys.length) cap E
      have hcm : grownCap w (xs.length + ys.length) cap E ≤ maxLen := grownCap_le_maxLen w (xs.length + ys.length) cap E (by unfold maxLen; omega)
      refine ⟨_, _, hrun, (App.ofOwn (E := E) (B := w.heap.size) ⟨⟨by simp, .inr ⟨w.heap.size, _, _, by rw [List.length_append], Nat.le_refl _, heap_alloc_new w.drew _, by rw [List.length_append]; exact hge, hcm, ?_, ?_⟩⟩, hwf2⟩ (by intro e; rw [(List.append_eq_nil_iff.1 e).2] at hm; simp at hm)).mono hB, (Below.refl _ _).drew.alloc hB _⟩
      · simp only [Array.size_append, List.size_toArray, size_zeroCells, List.length_map]
        simp [Value.cells]; omega
      · simp only [Array.toList_append, List.append_assoc]
        rw [← List.append_assoc, List.map_append]
        have e : (xs ++ ys).length * 1 = (xs.map (Value.int .u8) ++ ys.map (Value.int .u8)).length := by simp
        rw [e]
        exact List.take_left
  obtain ⟨v', w', hrun, h3, h4⟩ := key
  refine wpList_plain hgd fun K hK => ?_
  unfold Oper.wp execOp
  simp only [ho, resolve, invoke, builtin, Sem.run_bind, Sem.run_pure, Result.andThen_ok, List.map_toArray, List.map_cons, List.map_nil, hs, hx, hrun]
  exact hK _ _ (h v' w' h3 h4)
end Go.Proofs.Ytjiofcnlibkhkaa
