/- A queue of numbers: a slice of the call's own that is cut at its head and appended to. -/
import Derived.Test.YtpfmkjcngknecaaMem
namespace Go.Proofs.Ytpfmkjcngknecaa
open Go.RowKit
set_option maxRecDepth 10000

/-- v is a slice of int64s that the call owns (its block, if any, from B on), at whatever offset; it reads as l -/
def Que (e : TypeId) (B : Nat) (w : World) (v : Value) (l : List Int) : Prop :=
  (∀ x ∈ l, I64 x) ∧ ((v = .slice none 0 0 ∧ l = []) ∨
   ∃ g o cap cur, v = .slice (some ⟨g, o, none⟩) l.length cap ∧ B ≤ g ∧ w.heap[g]? = some (.cells cur e (0, 0)) ∧ l.length ≤ cap ∧ cap ≤ maxLen ∧ o + cap ≤ cur.size ∧ (cur.toList.drop o).take l.length = l.map (Value.int .i64))

section
variable {e : TypeId} {B : Nat} {w w' : World} {v : Value} {l : List Int}
theorem Que.ofAcc {fs : List (List Nat)} (h : Acc B e w v l fs) (hi : ∀ x ∈ l, I64 x) : Que e B w v l := by
  obtain ⟨css, ho, hcl, hr⟩ := h.own
  have hfl := h.fl
  have hcss : css.flatten = l.map (Value.int .i64) := by
    have : css = l.map fun x => [Value.int .i64 x] := by
      apply List.ext_getElem (by simp [hcl])
      intro k h1 h2
      have := hr k h1 (by omega) (by omega)
      rw [this.1]; simp
    rw [this]
    clear this hr hcl hfl ho h hi
    induction l with
    | nil => rfl
    | cons x l ih => simp [ih]
  refine ⟨hi, ?_⟩
  rcases ho.2 with ⟨rfl, h0⟩ | ⟨g, cap, cur, rfl, hb, hg, h1, h2, h3, h4⟩
  · exact .inl ⟨rfl, List.eq_nil_of_length_eq_zero h0⟩
  · refine .inr ⟨g, 0, cap, cur, rfl, hb, hg, h1, h2, ?_, ?_⟩
    · have : cur.size = cap * 1 := h3
      omega
    · have h5 : cur.toList.take (l.length * 1) = css.flatten := h4
      rw [hcss, Nat.mul_one] at h5
      simpa using h5
theorem Que.lt (h : Que e B w v l) : ∀ g, v.ownBlock = some g → B ≤ g ∧ g < w.heap.size := by
  intro g hg
  rcases h.2 with ⟨rfl, -⟩ | ⟨g', o, cap, cur, rfl, hb, hh, -⟩
  · simp [Value.ownBlock] at hg
  · simp [Value.ownBlock] at hg; subst hg
    exact ⟨hb, (Array.getElem?_eq_some_iff.1 hh).1⟩
theorem Que.only (h : Que e B w v l) {fp : List Nat} (ho : Only fp w w') (hn : ∀ g, v.ownBlock = some g → g ∉ fp) : Que e B w' v l := by
  refine ⟨h.1, ?_⟩
  rcases h.2 with hz | ⟨g, o, cap, cur, rfl, hb, hh, hrest⟩
  · exact .inl hz
  · exact .inr ⟨g, o, cap, cur, rfl, hb, (ho.block g (Array.getElem?_eq_some_iff.1 hh).1 (hn g rfl)).trans hh, hrest⟩
theorem Que.keep (h : Que e B w v l) (ho : Only [] w w') : Que e B w' v l := h.only ho (by simp)
theorem Que.form (h : Que e B w v l) : ∃ a c, v = .slice a l.length c := by
  rcases h.2 with ⟨rfl, rfl⟩ | ⟨g, o, cap, cur, rfl, -⟩
  · exact ⟨none, 0, rfl⟩
  · exact ⟨_, _, rfl⟩
/-- a queue that is not empty: its first number, what is behind it -/
theorem Que.head {x : Int} (h : Que e B w v (x :: l)) : ∃ g o cap, v = .slice (some ⟨g, o, none⟩) (l.length + 1) cap ∧ l.length + 1 ≤ cap ∧ cap ≤ maxLen ∧ w.cell? ⟨g, o, none⟩ = some (.int .i64 x) := by
  rcases h.2 with ⟨-, h0⟩ | ⟨g, o, cap, cur, rfl, hb, hh, h1, h2, h3, h4⟩
  · cases h0
  · refine ⟨g, o, cap, by simp, by simpa using h1, h2, ?_⟩
    rw [cell_of_row w g o cur e (0, 0) hh]
    have := congrArg (fun L => L[0]?) h4
    simp at this
    simpa using this
theorem Que.pop {P : Program} {t : TypeId} (ht : P.underlying t = some (.slice e)) (hz : ∀ w, (sizeOf e).run P w = .ok 1 w) {x : Int} (h : Que e B w v (x :: l)) : ∃ v1, (∀ W, (Instr.slice t v (some (.int .i64 1)) none none).run P W = .ok v1 W) ∧ Que e B w v1 l ∧ v1.ownBlock = v.ownBlock := by
  rcases h.2 with ⟨-, h0⟩ | ⟨g, o, cap, cur, rfl, hb, hh, h1, h2, h3, h4⟩
  · cases h0
  · have hi : ∀ y ∈ l, I64 y := fun y hy => h.1 y (by simp [hy])
    simp only [List.length_cons] at h1 h4
    have he : P.elem t = e := by simp [Program.elem, ht]
    have ht' : P.underlying t = some (.slice (P.elem t)) := by rw [he]; exact ht
    have hrun : ∀ W, (Instr.slice t (.slice (some ⟨g, o, none⟩) (x :: l).length cap) (some (.int .i64 1)) none none).run P W = .ok (sliced (some ⟨g, o, none⟩) 1 (x :: l).length cap 1) W := by
      intro W
      rw [run_slice_l (P := P) (w := W) t _ _ _ ht' .i64 1 (by omega) (by simp only [List.length_cons]; omega), he, hz]
      rfl
    by_cases hc : cap = 1
    · have hl : l.length = 0 := by omega
      have hl0 : l = [] := List.eq_nil_of_length_eq_zero hl
      refine ⟨.slice (some ⟨g, o, none⟩) 0 0, fun W => ?_, ⟨hi, .inr ⟨g, o, 0, cur, by rw [hl], hb, hh, by omega, by unfold maxLen; omega, by omega, by rw [hl0]; simp⟩⟩, rfl⟩
      rw [hrun W]; subst hl0; subst hc; rfl
    · refine ⟨.slice (some ⟨g, o + 1, none⟩) l.length (cap - 1), fun W => ?_, ⟨hi, .inr ⟨g, o + 1, cap - 1, cur, rfl, hb, hh, by omega, by omega, by omega, ?_⟩⟩, rfl⟩
      · rw [hrun W]
        unfold sliced
        rw [if_neg hc]
        simp [Addr.add]
      · have h5 := congrArg (List.drop 1) h4
        rw [List.drop_take, List.drop_drop] at h5
        simpa using h5
end

section
variable {P : Program} (w : World)
/-- where there is room, at an offset -/
theorem run_append_roomO (t ty e : TypeId) (i : TypeInfo) (ht : P.underlying t = some (.slice e)) (hi : P.info? e = some i)
    (g o sLen sCap : Nat) (cur : Array Value) (hg : w.heap[g]? = some (.cells cur e (0, 0)))
    (a : Addr) (m c : Nat) (news : List Value) (hl : news.length = m * i.size) (hnews : ∀ j u, news[j]? = some u → w.cell? (a.add j) = some u) (h1 : ∀ u ∈ news, u.oneCell' = true)
    (hroom : sLen + m ≤ sCap) (hfit : o + sLen * i.size + news.length ≤ cur.size) :
    (Builtin.append_ #[t, t] ty #[.slice (some ⟨g, o, none⟩) sLen sCap, .slice (some a) m c]).run P w =
      .ok (.slice (some ⟨g, o, none⟩) (sLen + m) sCap) (w.setRow g (cur.toList.take (o + sLen * i.size) ++ news ++ cur.toList.drop (o + sLen * i.size + news.length)).toArray) := by
  have hf := run_firstCells_some (P := P) w i.size m a m c news hl hnews
  have hst := run_storeCells_at P g (o + sLen * i.size) e news 0 cur w hg (by simpa using hfit) h1
  simp only [Nat.add_zero] at hst
  have hadd : (⟨g, o, none⟩ : Addr).add (sLen * i.size) = ⟨g, o + sLen * i.size, none⟩ := by unfold Addr.add; split <;> simp_all
  simp [Builtin.append_, run_underlying ht, sizeOf, typeInfo, hi, Builtin.lenOf, hroom, hf, hadd, hst]
theorem run_app_que (t ty e : TypeId) (i : TypeInfo) (z : Value) (ht : P.underlying t = some (.slice e)) (hi : P.info? e = some i) (hz : i.zero = some z)
    (hsize : i.size = 1) (hby : i.bytes = 8) (hzs : z.cells.size = 1) {B : Nat} (v : Value) (l : List Int) (hq : Que e B w v l)
    (ad : Addr) (c : Nat) (x : Int) (hx : I64 x) (hsrc : w.cell? ad = some (.int .i64 x)) (hlen : l.length + 1 ≤ 1073741824) (hB : B ≤ w.heap.size) :
    ∃ v' w', (Builtin.append_ #[t, t] ty #[v, .slice (some ad) 1 c]).run P w = .ok v' w' ∧ Que e B w' v' (l ++ [x]) ∧ Only v.ownBlock.toList w w' ∧
      (v'.ownBlock = v.ownBlock ∨ v'.ownBlock = some w.heap.size) := by
  have hi' : ∀ y ∈ l ++ [x], I64 y := fun y hy => by
    rcases List.mem_append.1 hy with hy | hy
    · exact hq.1 y hy
    · simp at hy; subst hy; exact hx
  have hnews : ∀ j u, [Value.int .i64 x][j]? = some u → w.cell? (ad.add j) = some u := by
    intro j u hu
    cases j with
    | zero => simp at hu; subst hu; rw [show ad.add 0 = ad by unfold Addr.add; split <;> simp_all]; exact hsrc
    | succ j => simp at hu
  have h1 : ∀ u ∈ [Value.int .i64 x], u.oneCell' = true := by intro u hu; simp at hu; subst hu; rfl
  have grown : ∀ (old : Nat) (xs : List Value), xs = l.map (Value.int .i64) → ∀ (row : List Nat),
      Que e B (w.drew.alloc (.cells (xs.toArray ++ [Value.int .i64 x].toArray ++ Builtin.zeroCells z.cells (grownCap w (l.length + 1) old e - (l.length + 1))) e))
        (.slice (some ⟨w.heap.size, 0, none⟩) (l.length + 1) (grownCap w (l.length + 1) old e)) (l ++ [x]) ∧
      Only row w (w.drew.alloc (.cells (xs.toArray ++ [Value.int .i64 x].toArray ++ Builtin.zeroCells z.cells (grownCap w (l.length + 1) old e - (l.length + 1))) e)) := by
    intro old xs hxs row
    have hge := grownCap_ge w (l.length + 1) old e
    have hcm : grownCap w (l.length + 1) old e ≤ maxLen := grownCap_le_maxLen w (l.length + 1) old e (by unfold maxLen; omega)
    refine ⟨⟨hi', .inr ⟨w.heap.size, 0, _, _, by simp, hB, heap_alloc_new w.drew _, by simpa using hge, hcm, ?_, ?_⟩⟩, ((Only.refl row w).drew).alloc _⟩
    · subst hxs
      simp only [Array.size_append, List.size_toArray, size_zeroCells, hzs, List.length_map, List.length_cons, List.length_nil]
      omega
    · subst hxs
      simp only [List.drop_zero, Array.toList_append, List.append_assoc]
      rw [← List.append_assoc]
      have e1 : l.map (Value.int .i64) ++ [Value.int .i64 x] = (l ++ [x]).map (Value.int .i64) := by simp
      rw [e1, show (l ++ [x]).length = ((l ++ [x]).map (Value.int .i64)).length by simp]
      exact List.take_left
  rcases hq.2 with ⟨rfl, rfl⟩ | ⟨g, o, cap, cur, rfl, hbg, hg, hnc, hcm, hcs, htake⟩
  · have hr := run_append_nil (P := P) w t ty e i z ht hi hz ad 1 c [Value.int .i64 x] (by simp [hsize]) hnews (by omega) (by omega) (by rw [hby]; omega)
    have hgr := grown 0 [] rfl (Value.ownBlock (.slice none 0 0)).toList
    simp only [List.length_nil, Nat.zero_add, List.nil_append, Array.empty_append] at hgr ⊢
    exact ⟨_, _, hr, hgr.1, hgr.2, Or.inr rfl⟩
  · by_cases hroom : l.length + 1 ≤ cap
    · have hr := run_append_roomO (P := P) w t ty e i ht hi g o l.length cap cur hg ad 1 c [Value.int .i64 x] (by simp [hsize]) hnews h1 hroom (by rw [hsize]; simp; omega)
      refine ⟨_, _, hr, ⟨hi', .inr ⟨g, o, cap, _, by simp, hbg, setRow_heap w g cur _ e _ hg, by simpa using hroom, hcm, ?_, ?_⟩⟩, ⟨rfl, rfl, rfl, by simp, fun k _ hk => setRow_other w g k _ (fun e => hk (by simp [Value.ownBlock, e]))⟩, Or.inl rfl⟩
      · simp only [List.size_toArray, List.length_append, List.length_take, List.length_drop, Array.length_toList]
        omega
      · rw [hsize]
        simp only [Nat.mul_one, List.length_append, List.length_cons, List.length_nil]
        have e0 : o ≤ cur.toList.length := by simp; omega
        have e1 : (cur.toList.take (o + l.length)).drop o = l.map (Value.int .i64) := by rw [List.drop_take]; rw [← htake]; congr 1; omega
        have e2 : ((cur.toList.take (o + l.length) ++ [Value.int .i64 x] ++ cur.toList.drop (o + l.length + (0 + 1))).drop o) = l.map (Value.int .i64) ++ ([Value.int .i64 x] ++ cur.toList.drop (o + l.length + (0 + 1))) := by
          rw [List.append_assoc, List.drop_append_of_le_length (by simp; omega), e1]
        rw [e2, ← List.append_assoc]
        have e3 : l.map (Value.int .i64) ++ [Value.int .i64 x] = (l ++ [x]).map (Value.int .i64) := by simp
        rw [e3, show l.length + (0 + 1) = ((l ++ [x]).map (Value.int .i64)).length by simp]
        exact List.take_left
    · have holds : ∀ j u, (l.map (Value.int .i64))[j]? = some u → w.cell? ((⟨g, o, none⟩ : Addr).add j) = some u := by
        intro j u hu
        have hadd : (⟨g, o, none⟩ : Addr).add j = ⟨g, o + j, none⟩ := by unfold Addr.add; split <;> simp_all
        rw [hadd, cell_of_row w g (o + j) cur e (0, 0) hg]
        rw [← htake, List.getElem?_take] at hu
        split at hu
        · rw [List.getElem?_drop] at hu; simpa using hu
        · cases hu
      have hr := run_append_grow (P := P) w t ty e i z ht hi hz ⟨g, o, none⟩ l.length cap (l.map (Value.int .i64)) (by simp [hsize]) holds ad 1 c [Value.int .i64 x] (by simp [hsize]) hnews (by omega) (by omega) (growslice_fits (by omega) (by rw [hby]; omega))
      have hgr := grown cap (l.map (Value.int .i64)) rfl (Value.ownBlock (.slice (some ⟨g, o, none⟩) l.length cap)).toList
      exact ⟨_, _, hr, hgr.1, hgr.2, Or.inr rfl⟩
end
section
variable {P : Program} {ops : Array Oper} {rest : List Oper} {o : Oper} {a : Act} {w : World} {Q : Exit → Act → World → Prop}
theorem wpList_que (hgd : o.guard = none) (s x : Operand) (t : TypeId)
    (ho : o.op = .call { callee := .builtin .append, args := #[s, x], argTypes := #[t, t] })
    (e : TypeId) (i : TypeInfo) (z : Value) (ht : P.underlying t = some (.slice e)) (hi : P.info? e = some i) (hz : i.zero = some z)
    (hsize : i.size = 1) (hby : i.bytes = 8) (hzs : z.cells.size = 1) {B : Nat} (v : Value) (l : List Int) (hs : a.eval s = v) (hq : Que e B w v l)
    (ad : Addr) (c : Nat) (n : Int) (hx : a.eval x = .slice (some ad) 1 c) (hn : I64 n) (hsrc : w.cell? ad = some (.int .i64 n)) (hlen : l.length + 1 ≤ 1073741824) (hB : B ≤ w.heap.size)
    (h : ∀ v' w', Que e B w' v' (l ++ [n]) → Only v.ownBlock.toList w w' → (v'.ownBlock = v.ownBlock ∨ v'.ownBlock = some w.heap.size) → wpList P ops Q rest (a.put o.dst v') w') : wpList P ops Q (o :: rest) a w := by
  refine wpList_plain hgd fun K hK => ?_
  obtain ⟨v', w', hr, h2, h3, h4⟩ := run_app_que (P := P) w t o.type e i z ht hi hz hsize hby hzs v l hq ad c n hn hsrc hlen hB
  unfold Oper.wp execOp
  simp only [ho, resolve, invoke, builtin, Sem.run_bind, Sem.run_pure, Result.andThen_ok, List.map_toArray, List.map_cons, List.map_nil, hs, hx, hr]
  exact hK _ _ (h v' w' h2 h3 h4)
end
end Go.Proofs.Ytpfmkjcngknecaa
