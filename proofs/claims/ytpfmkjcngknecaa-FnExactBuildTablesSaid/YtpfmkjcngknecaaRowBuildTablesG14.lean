/- Copies of sessions: the reference's and the program's; what they are made of. (Printed by mkseops2.py.) PlayWord: the reference's and the program's. -/
import Derived.Test.YtpfmkjcngknecaaRowBuildTablesG13
namespace Go.Proofs.Ytpfmkjcngknecaa
open Go.RowKit
set_option maxRecDepth 10000

/-- a session of the call's own, in parts -/
structure SeP (eI : TypeId) (B : Nat) (w : World) (x : Session) (vm vs vh vf : Value) (fm fs : List Nat) (hs us : List (List Nat)) : Prop where
  nm : I64 x.puzzle.points ∧ x.puzzle.names.size ≤ maxLen
  mv : Rd w vm x.puzzle.moves fm
  st : Rd w vs x.state fs
  hi : Acc B eI w vh x.history hs
  fu : Acc B eI w vf x.future us
  fr : Fresh B w (fm ++ (fs ++ ((vh.ownBlock.toList ++ hs.flatten) ++ (vf.ownBlock.toList ++ us.flatten))))
section
variable {eI : TypeId} {B : Nat} {w w' : World} {x : Session} {vm vs vh vf : Value} {fm fs : List Nat} {hs us : List (List Nat)}
theorem SeP.only (h : SeP eI B w x vm vs vh vf fm fs hs us) {fp : List Nat} (ho : Only fp w w') (hd : ∀ b ∈ fp, b < B ∨ w.heap.size ≤ b) : SeP eI B w' x vm vs vh vf fm fs hs us := by
  have key : ∀ b ∈ fm ++ (fs ++ ((vh.ownBlock.toList ++ hs.flatten) ++ (vf.ownBlock.toList ++ us.flatten))), b ∉ fp := fun b hb hm => by
    have h1 := h.fr.ge b hb
    have h2 := h.fr.lt b hb
    rcases hd b hm with h3 | h3 <;> omega
  have k1 : ∀ b ∈ fm, b ∉ fp := fun b hb => key b (List.mem_append_left _ hb)
  have k2 : ∀ b ∈ fs, b ∉ fp := fun b hb => key b (List.mem_append_right _ (List.mem_append_left _ hb))
  have k3 : ∀ b ∈ vh.ownBlock.toList ++ hs.flatten, b ∉ fp := fun b hb => key b (List.mem_append_right _ (List.mem_append_right _ (List.mem_append_left _ hb)))
  have k4 : ∀ b ∈ vf.ownBlock.toList ++ us.flatten, b ∉ fp := fun b hb => key b (List.mem_append_right _ (List.mem_append_right _ (List.mem_append_right _ hb)))
  exact ⟨h.nm, Rp.only h.mv ho k1, Rp.only h.st ho k2, h.hi.only ho (fun b hb => k3 b (List.mem_append_right _ hb)) (fun g hg => k3 g (List.mem_append_left _ (by simp [hg]))), h.fu.only ho (fun b hb => k4 b (List.mem_append_right _ hb)) (fun g hg => k4 g (List.mem_append_left _ (by simp [hg]))), h.fr.only ho key⟩
theorem Acc.mono {α : Type} [Rp α] {B B' : Nat} {e : TypeId} {w : World} {v : Value} {l : List α} {fs : List (List Nat)} (h : Acc B e w v l fs) (hB : B' ≤ B) : Acc B' e w v l fs := by
  obtain ⟨css, ho, hr⟩ := h.own
  refine ⟨⟨css, ⟨ho.1, ?_⟩, hr⟩, h.fl, h.apart⟩
  rcases ho.2 with h1 | ⟨g, cp, cur, h1, h2, h3⟩
  · exact .inl h1
  · exact .inr ⟨g, cp, cur, h1, Nat.le_trans hB h2, h3⟩
theorem SeP.mono (h : SeP eI B w x vm vs vh vf fm fs hs us) {B' : Nat} (hB : B' ≤ B) : SeP eI B' w x vm vs vh vf fm fs hs us :=
  ⟨h.nm, h.mv, h.st, h.hi.mono hB, h.fu.mono hB, h.fr.mono hB⟩
/-- parts made one behind the other -/
theorem SeP.made {w1 w2 w3 w4 : World} (nm : I64 x.puzzle.points ∧ x.puzzle.names.size ≤ maxLen) {B1 : Nat} (r1 : Rd w1 vm x.puzzle.moves fm) (F1 : Fresh B1 w1 fm) (r2 : Rd w2 vs x.state fs) (F2 : Fresh w1.heap.size w2 fs) (r3 : Acc w2.heap.size eI w3 vh x.history hs) (F3 : Fresh w2.heap.size w3 hs.flatten)
    (r4 : Acc w3.heap.size eI w4 vf x.future us) (F4 : Fresh w3.heap.size w4 us.flatten) (t2 : Only [] w1 w2) (t3 : Only [] w2 w3) (t4 : Only [] w3 w4) (hB : B ≤ B1) (hB1 : B1 ≤ w1.heap.size) : SeP eI B w4 x vm vs vh vf fm fs hs us := by
  have s2 := t2.size
  have s3 := t3.size
  have s4 := t4.size
  refine ⟨nm, Rp.keep (Rp.keep (Rp.keep r1 t2) t3) t4, Rp.keep (Rp.keep r2 t3) t4, (r3.keep t4).mono (by omega), r4.mono (by omega), ?_⟩
  have f4 := r4.fresh F4
  have f3 := (r3.fresh F3)
  have f34 := Fresh.append (f3.keep t4) f4 s3 fun b hb => f3.lt b hb
  have f234 := Fresh.append ((F2.keep t3).keep t4) f34 s2 fun b hb => F2.lt b hb
  exact (Fresh.append (((F1.keep t2).keep t3).keep t4) f234 hB1 fun b hb => F1.lt b hb).mono hB
theorem SeP.keep (h : SeP eI B w x vm vs vh vf fm fs hs us) (ho : Only [] w w') : SeP eI B w' x vm vs vh vf fm fs hs us := h.only ho (by simp)
theorem SeP.rep (h : SeP eI B w x vm vs vh vf fm fs hs us) : Rp.rep w [.int .i64 x.puzzle.points, .string x.puzzle.names, vm, vs, vh, vf] x (fm ++ (fs ++ ((vh.ownBlock.toList ++ hs.flatten) ++ (vf.ownBlock.toList ++ us.flatten)))) :=
  ⟨[.int .i64 x.puzzle.points, .string x.puzzle.names, vm], vs, vh, vf, fm, fs, _, _, rfl, rfl, ⟨vm, rfl, h.nm.1, h.nm.2, h.mv⟩, h.st, h.hi.rd (by decide), h.fu.rd (by decide)⟩
end
/-- what a copy leaves -/
def CopyP (eI : TypeId) (w : World) (x : Session) (e : Ending) (w' : World) : Prop :=
  ∃ Am Cm As Cs Ah Ch Af Cf fm fs hs us, e = .returned (.agg #[.int .i64 x.puzzle.points, .string x.puzzle.names, .slice Am x.puzzle.moves.length Cm, .slice As x.state.length Cs, .slice Ah x.history.length Ch, .slice Af x.future.length Cf]) ∧
    SeP eI w.heap.size w' x (.slice Am x.puzzle.moves.length Cm) (.slice As x.state.length Cs) (.slice Ah x.history.length Ch) (.slice Af x.future.length Cf) fm fs hs us ∧ Only [] w w'
theorem validSe_facts {x : Session} (h : validSe x = true) : stateB x.puzzle x.state = true ∧ x.puzzle.moves.length ≤ 8 ∧ (∀ y ∈ x.puzzle.moves, y.length ≤ 2097152) ∧ x.state.length ≤ 20 ∧ x.history.length ≤ 40 ∧ (∀ y ∈ x.history, y.length ≤ 2097152) ∧ x.future.length ≤ 40 ∧ (∀ y ∈ x.future, y.length ≤ 2097152) := by
  unfold validSe at h
  rw [Bool.and_eq_true, Bool.and_eq_true] at h
  obtain ⟨h1, h2, h3⟩ := h
  have hs := reachB_state h1
  obtain ⟨a, b, c, d⟩ := stateB_pn hs
  obtain ⟨l1, l2⟩ := wordsB_len h2
  obtain ⟨l3, l4⟩ := wordsB_len h3
  refine ⟨hs, b, fun y hy => ?_, ?_, l1, fun y hy => ?_, l3, fun y hy => ?_⟩
  · have := (c y hy).1; omega
  · have := d.1; omega
  · have := validW_len (l2 y hy); omega
  · have := validW_len (l4 y hy); omega
set_option maxHeartbeats 4000000 in
theorem copySession_any (cs : List Value) (x : Session) (fp : List Nat) (w : World) (h : Rp.rep w cs x fp) (hv : validSe x = true) :
    Calls Try.prog 64 #[.agg cs.toArray] w (CopyP 25 w x) := by
  obtain ⟨c0, v1, v2, v3, f0, f1, f2, f3, rfl, rfl, k0, k1, k2, k3⟩ := h
  have q0 := k0
  obtain ⟨u2, rfl, p0, p1, h2⟩ := q0
  obtain ⟨A2, C2, _, _, rfl, -, -⟩ := h2.open_
  obtain ⟨A3, C3, _, _, rfl, -, -⟩ := k1.open_
  obtain ⟨A4, C4, ob4, fp4, rfl, -, S4⟩ := k2.open_
  obtain ⟨A5, C5, ob5, fp5, rfl, -, S5⟩ := k3.open_
  obtain ⟨-, m1, m2, m3, m4, m5, m6, m7⟩ := validSe_facts hv
  have Hm2 := Lib.hid m2
  have Hm5 := Lib.hid m5
  have Hm7 := Lib.hid m7
  have HS4 := Lib.hid S4
  have HS5 := Lib.hid S5
  clear m2 m5 m7 hv S4 S5
  have hW0 : Only [] w ((w.alloc (.cells #[.int .i64 x.puzzle.points, .string x.puzzle.names, .slice A2 x.puzzle.moves.length C2, .slice A3 x.state.length C3, .slice A4 x.history.length C4, .slice A5 x.future.length C5] 32)).alloc (.cells #[.int .i64 0, .string ⟨#[]⟩, .slice none 0 0, .slice none 0 0, .slice none 0 0, .slice none 0 0] 32)) := ((Only.refl _ _).alloc _).alloc _
  have hB : Blk ((w.alloc (.cells #[.int .i64 x.puzzle.points, .string x.puzzle.names, .slice A2 x.puzzle.moves.length C2, .slice A3 x.state.length C3, .slice A4 x.history.length C4, .slice A5 x.future.length C5] 32)).alloc (.cells #[.int .i64 0, .string ⟨#[]⟩, .slice none 0 0, .slice none 0 0, .slice none 0 0, .slice none 0 0] 32)) w.heap.size [.int .i64 x.puzzle.points, .string x.puzzle.names, .slice A2 x.puzzle.moves.length C2, .slice A3 x.state.length C3, .slice A4 x.history.length C4, .slice A5 x.future.length C5] := Blk.keep (Blk.new_at rfl) ((Only.refl _ _).alloc _)
  have HB := Lib.hid hB; clear hB
  go_enter Try.func64, Try.ntmps64
  go_wp2
  go_region_held3 (fun w' => Only [w.heap.size + 1] ((w.alloc (.cells #[.int .i64 x.puzzle.points, .string x.puzzle.names, .slice A2 x.puzzle.moves.length C2, .slice A3 x.state.length C3, .slice A4 x.history.length C4, .slice A5 x.future.length C5] 32)).alloc (.cells #[.int .i64 0, .string ⟨#[]⟩, .slice none 0 0, .slice none 0 0, .slice none 0 0, .slice none 0 0] 32)) w' ∧ w'.cell? ⟨w.heap.size, 0, none⟩ = some (Value.int .i64 x.puzzle.points) ∧ w'.cell? ⟨w.heap.size, 1, none⟩ = some (.string x.puzzle.names) ∧ w'.cell? ⟨w.heap.size, 2, none⟩ = some (.slice A2 x.puzzle.moves.length C2) ∧ w'.cell? ⟨w.heap.size, 3, none⟩ = some (.slice A3 x.state.length C3) ∧ w'.cell? ⟨w.heap.size, 4, none⟩ = some (.slice A4 x.history.length C4) ∧ w'.cell? ⟨w.heap.size, 5, none⟩ = some (.slice A5 x.future.length C5)) ((refine and_of ?_ (fun h__ => ⟨(Blk.only HB.out h__ (by simp)).cell 0 rfl, (Blk.only HB.out h__ (by simp)).cell 1 rfl, (Blk.only HB.out h__ (by simp)).cell 2 rfl, (Blk.only HB.out h__ (by simp)).cell 3 rfl, (Blk.only HB.out h__ (by simp)).cell 4 rfl, (Blk.only HB.out h__ (by simp)).cell 5 rfl⟩); first | (with_reducible exact (Only.refl _ _).drew) | (with_reducible exact Only.keepThen (And.left (by assumption)) (by assumption)) | (with_reducible exact Only.setCell (Only.setCell (Only.setCell (Only.setCell (Only.setCell (Only.setCell (And.left (by assumption)) (by intro _; simp) _) (by intro _; simp) _) (by intro _; simp) _) (by intro _; simp) _) (by intro _; simp) _) (by intro _; simp) _))) (first
    | (go_at_call 99; (with_reducible refine (copyPuzzle_any [.int .i64 x.puzzle.points, .string x.puzzle.names, .slice A2 x.puzzle.moves.length C2] x.puzzle _ _ (Rp.keep k0 (Only.own1 hW0 (And.left (by assumption)) (Nat.le_succ _))) (by omega) Hm2.out).mono ?_); rintro en w1 ⟨u1, g1, rfl, r1, F1, t1⟩; obtain ⟨uu, rfl, -, -, R1⟩ := r1; obtain ⟨A6, C6, _, _, rfl, -⟩ := R1.open_; have y1 := t1.cells_eq (w.heap.size + 1) (by simp) (by simp); have z1 := t1.frozen_eq (w.heap.size + 1) (by simp) (by simp); have s1 : w.heap.size + 1 < w1.heap.size := (by have := t1.size; simp at this; omega))
    | (go_at_call 95; (with_reducible refine (copyInts_rd _ x.state _ _ (Rp.keep k1 (Only.own1 hW0 (And.left (by assumption)) (Nat.le_succ _))) (by omega)).mono ?_); rintro en w2 ⟨v6, g2, rfl, r2, F2, t2⟩; obtain ⟨A7, C7, _, _, rfl, -⟩ := r2.open_; have y2 := t2.cells_eq (w.heap.size + 1) s1 (by simp); have z2 := t2.frozen_eq (w.heap.size + 1) s1 (by simp); have s2 : w.heap.size + 1 < w2.heap.size := Nat.lt_of_lt_of_le s1 t2.size)
    | (go_at_call 96; (with_reducible refine (copyLists_acc A4 C4 x.history ob4 fp4 _ (HS4.out.frame (Rd.frm (Only.own1 hW0 (And.left (by assumption)) (Nat.le_succ _)) HS4.out)) (by omega) Hm5.out).mono ?_); rintro en w3 ⟨v7, g3, rfl, r3, F3, t3⟩; obtain ⟨A8, C8, rfl⟩ := r3.form; have y3 := t3.cells_eq (w.heap.size + 1) s2 (by simp); have z3 := t3.frozen_eq (w.heap.size + 1) s2 (by simp); have s3 : w.heap.size + 1 < w3.heap.size := Nat.lt_of_lt_of_le s2 t3.size)
    | (go_at_call 96; (with_reducible refine (copyLists_acc A5 C5 x.future ob5 fp5 _ (HS5.out.frame (Rd.frm (Only.own1 hW0 (And.left (by assumption)) (Nat.le_succ _)) HS5.out)) (by omega) Hm7.out).mono ?_); rintro en w4 ⟨v8, g4, rfl, r4, F4, t4⟩; obtain ⟨A9, C9, rfl⟩ := r4.form; have y4 := t4.cells_eq (w.heap.size + 1) s3 (by simp); have z4 := t4.frozen_eq (w.heap.size + 1) s3 (by simp); have s4 : w.heap.size + 1 < w4.heap.size := Nat.lt_of_lt_of_le s3 t4.size)
    | fail "no arm")
  go_wp2
  have hW : Only [w.heap.size + 1] w4 ((((((w4.setCell ⟨w.heap.size + 1, 0, none⟩ (Value.int .i64 x.puzzle.points)).setCell ⟨w.heap.size + 1, 1, none⟩ (.string x.puzzle.names)).setCell ⟨w.heap.size + 1, 2, none⟩ (.slice A6 x.puzzle.moves.length C6)).setCell ⟨w.heap.size + 1, 3, none⟩ (.slice A7 x.state.length C7)).setCell ⟨w.heap.size + 1, 4, none⟩ (.slice A8 x.history.length C8)).setCell ⟨w.heap.size + 1, 5, none⟩ (.slice A9 x.future.length C9)) := by with_reducible exact Only.setCell (Only.setCell (Only.setCell (Only.setCell (Only.setCell (Only.setCell (Only.refl [w.heap.size + 1] w4) (by intro _; simp) _) (by intro _; simp) _) (by intro _; simp) _) (by intro _; simp) _) (by intro _; simp) _) (by intro _; simp) _
  have hP := (SeP.made (B := w.heap.size + 2) ⟨p0, p1⟩ R1 F1 r2 F2 r3 F3 r4 F4 t2 t3 t4 (by simp) (by have := t1.size; simpa using this)).only hW (fun b hb => by simp at hb; omega)
  refine bodyPost_ret (v := .agg #[Value.int .i64 x.puzzle.points, .string x.puzzle.names, .slice A6 x.puzzle.moves.length C6, .slice A7 x.state.length C7, .slice A8 x.history.length C8, .slice A9 x.future.length C9]) (by simp [results, Try.results64, go_sem, y4, y3, y2, y1]) rfl ⟨A6, C6, A7, C7, A8, C8, A9, C9, g1, g2, g3, g4, rfl, hP.mono (by omega), ?_⟩
  exact Only.own1 (hW0.trans ((Only.refl _ _).drew.trans (t1.trans (t2.trans (t3.trans t4))))) hW (Nat.le_succ _)
set_option maxHeartbeats 4000000 in
theorem cloneSession_any (cs : List Value) (x : Session) (fp : List Nat) (w : World) (h : Rp.rep w cs x fp) (hv : validSe x = true) :
    Calls Try.prog 68 #[.agg cs.toArray] w (CopyP 25 w x) := by
  obtain ⟨c0, v1, v2, v3, f0, f1, f2, f3, rfl, rfl, k0, k1, k2, k3⟩ := h
  have q0 := k0
  obtain ⟨u2, rfl, p0, p1, h2⟩ := q0
  obtain ⟨A2, C2, _, _, rfl, -, -⟩ := h2.open_
  obtain ⟨A3, C3, _, _, rfl, -, -⟩ := k1.open_
  obtain ⟨A4, C4, ob4, fp4, rfl, -, S4⟩ := k2.open_
  obtain ⟨A5, C5, ob5, fp5, rfl, -, S5⟩ := k3.open_
  obtain ⟨-, m1, m2, m3, m4, m5, m6, m7⟩ := validSe_facts hv
  have Hm2 := Lib.hid m2
  have Hm5 := Lib.hid m5
  have Hm7 := Lib.hid m7
  have HS4 := Lib.hid S4
  have HS5 := Lib.hid S5
  clear m2 m5 m7 hv S4 S5
  have hW0 : Only [] w ((w.alloc (.cells #[.int .i64 x.puzzle.points, .string x.puzzle.names, .slice A2 x.puzzle.moves.length C2, .slice A3 x.state.length C3, .slice A4 x.history.length C4, .slice A5 x.future.length C5] 32)).alloc (.cells #[.int .i64 0, .string ⟨#[]⟩, .slice none 0 0, .slice none 0 0, .slice none 0 0, .slice none 0 0] 32)) := ((Only.refl _ _).alloc _).alloc _
  have hB : Blk ((w.alloc (.cells #[.int .i64 x.puzzle.points, .string x.puzzle.names, .slice A2 x.puzzle.moves.length C2, .slice A3 x.state.length C3, .slice A4 x.history.length C4, .slice A5 x.future.length C5] 32)).alloc (.cells #[.int .i64 0, .string ⟨#[]⟩, .slice none 0 0, .slice none 0 0, .slice none 0 0, .slice none 0 0] 32)) w.heap.size [.int .i64 x.puzzle.points, .string x.puzzle.names, .slice A2 x.puzzle.moves.length C2, .slice A3 x.state.length C3, .slice A4 x.history.length C4, .slice A5 x.future.length C5] := Blk.keep (Blk.new_at rfl) ((Only.refl _ _).alloc _)
  have HB := Lib.hid hB; clear hB
  go_enter Try.func68, Try.ntmps68
  go_wp2
  go_region_held3 (fun w' => Only [w.heap.size + 1] ((w.alloc (.cells #[.int .i64 x.puzzle.points, .string x.puzzle.names, .slice A2 x.puzzle.moves.length C2, .slice A3 x.state.length C3, .slice A4 x.history.length C4, .slice A5 x.future.length C5] 32)).alloc (.cells #[.int .i64 0, .string ⟨#[]⟩, .slice none 0 0, .slice none 0 0, .slice none 0 0, .slice none 0 0] 32)) w' ∧ w'.cell? ⟨w.heap.size, 0, none⟩ = some (Value.int .i64 x.puzzle.points) ∧ w'.cell? ⟨w.heap.size, 1, none⟩ = some (.string x.puzzle.names) ∧ w'.cell? ⟨w.heap.size, 2, none⟩ = some (.slice A2 x.puzzle.moves.length C2) ∧ w'.cell? ⟨w.heap.size, 3, none⟩ = some (.slice A3 x.state.length C3) ∧ w'.cell? ⟨w.heap.size, 4, none⟩ = some (.slice A4 x.history.length C4) ∧ w'.cell? ⟨w.heap.size, 5, none⟩ = some (.slice A5 x.future.length C5)) ((refine and_of ?_ (fun h__ => ⟨(Blk.only HB.out h__ (by simp)).cell 0 rfl, (Blk.only HB.out h__ (by simp)).cell 1 rfl, (Blk.only HB.out h__ (by simp)).cell 2 rfl, (Blk.only HB.out h__ (by simp)).cell 3 rfl, (Blk.only HB.out h__ (by simp)).cell 4 rfl, (Blk.only HB.out h__ (by simp)).cell 5 rfl⟩); first | (with_reducible exact (Only.refl _ _).drew) | (with_reducible exact Only.keepThen (And.left (by assumption)) (by assumption)) | (with_reducible exact Only.setCell (Only.setCell (Only.setCell (Only.setCell (Only.setCell (Only.setCell (And.left (by assumption)) (by intro _; simp) _) (by intro _; simp) _) (by intro _; simp) _) (by intro _; simp) _) (by intro _; simp) _) (by intro _; simp) _))) (first
    | (go_at_call 102; (with_reducible refine (clonePuzzle_any [.int .i64 x.puzzle.points, .string x.puzzle.names, .slice A2 x.puzzle.moves.length C2] x.puzzle _ _ (Rp.keep k0 (Only.own1 hW0 (And.left (by assumption)) (Nat.le_succ _))) (by omega) Hm2.out).mono ?_); rintro en w1 ⟨u1, g1, rfl, r1, F1, t1⟩; obtain ⟨uu, rfl, -, -, R1⟩ := r1; obtain ⟨A6, C6, _, _, rfl, -⟩ := R1.open_; have y1 := t1.cells_eq (w.heap.size + 1) (by simp) (by simp); have z1 := t1.frozen_eq (w.heap.size + 1) (by simp) (by simp); have s1 : w.heap.size + 1 < w1.heap.size := (by have := t1.size; simp at this; omega))
    | (go_at_call 98; (with_reducible refine (Clone_rd _ x.state _ _ (Rp.keep k1 (Only.own1 hW0 (And.left (by assumption)) (Nat.le_succ _))) (by omega)).mono ?_); rintro en w2 ⟨v6, g2, rfl, r2, F2, t2⟩; obtain ⟨A7, C7, _, _, rfl, -⟩ := r2.open_; have y2 := t2.cells_eq (w.heap.size + 1) s1 (by simp); have z2 := t2.frozen_eq (w.heap.size + 1) s1 (by simp); have s2 : w.heap.size + 1 < w2.heap.size := Nat.lt_of_lt_of_le s1 t2.size)
    | (go_at_call 74; (with_reducible refine (cloneLists_acc A4 C4 x.history ob4 fp4 _ (HS4.out.frame (Rd.frm (Only.own1 hW0 (And.left (by assumption)) (Nat.le_succ _)) HS4.out)) (by omega) Hm5.out).mono ?_); rintro en w3 ⟨v7, g3, rfl, r3, F3, t3⟩; obtain ⟨A8, C8, rfl⟩ := r3.form; have y3 := t3.cells_eq (w.heap.size + 1) s2 (by simp); have z3 := t3.frozen_eq (w.heap.size + 1) s2 (by simp); have s3 : w.heap.size + 1 < w3.heap.size := Nat.lt_of_lt_of_le s2 t3.size)
    | (go_at_call 74; (with_reducible refine (cloneLists_acc A5 C5 x.future ob5 fp5 _ (HS5.out.frame (Rd.frm (Only.own1 hW0 (And.left (by assumption)) (Nat.le_succ _)) HS5.out)) (by omega) Hm7.out).mono ?_); rintro en w4 ⟨v8, g4, rfl, r4, F4, t4⟩; obtain ⟨A9, C9, rfl⟩ := r4.form; have y4 := t4.cells_eq (w.heap.size + 1) s3 (by simp); have z4 := t4.frozen_eq (w.heap.size + 1) s3 (by simp); have s4 : w.heap.size + 1 < w4.heap.size := Nat.lt_of_lt_of_le s3 t4.size)
    | fail "no arm")
  go_wp2
  have hW : Only [w.heap.size + 1] w4 ((((((w4.setCell ⟨w.heap.size + 1, 0, none⟩ (Value.int .i64 x.puzzle.points)).setCell ⟨w.heap.size + 1, 1, none⟩ (.string x.puzzle.names)).setCell ⟨w.heap.size + 1, 2, none⟩ (.slice A6 x.puzzle.moves.length C6)).setCell ⟨w.heap.size + 1, 3, none⟩ (.slice A7 x.state.length C7)).setCell ⟨w.heap.size + 1, 4, none⟩ (.slice A8 x.history.length C8)).setCell ⟨w.heap.size + 1, 5, none⟩ (.slice A9 x.future.length C9)) := by with_reducible exact Only.setCell (Only.setCell (Only.setCell (Only.setCell (Only.setCell (Only.setCell (Only.refl [w.heap.size + 1] w4) (by intro _; simp) _) (by intro _; simp) _) (by intro _; simp) _) (by intro _; simp) _) (by intro _; simp) _) (by intro _; simp) _
  have hP := (SeP.made (B := w.heap.size + 2) ⟨p0, p1⟩ R1 F1 r2 F2 r3 F3 r4 F4 t2 t3 t4 (by simp) (by have := t1.size; simpa using this)).only hW (fun b hb => by simp at hb; omega)
  refine bodyPost_ret (v := .agg #[Value.int .i64 x.puzzle.points, .string x.puzzle.names, .slice A6 x.puzzle.moves.length C6, .slice A7 x.state.length C7, .slice A8 x.history.length C8, .slice A9 x.future.length C9]) (by simp [results, Try.results68, go_sem, y4, y3, y2, y1]) rfl ⟨A6, C6, A7, C7, A8, C8, A9, C9, g1, g2, g3, g4, rfl, hP.mono (by omega), ?_⟩
  exact Only.own1 (hW0.trans ((Only.refl _ _).drew.trans (t1.trans (t2.trans (t3.trans t4))))) hW (Nat.le_succ _)
end Go.Proofs.Ytpfmkjcngknecaa

namespace Go.Proofs.Ytpfmkjcngknecaa
open Go.RowKit
set_option maxRecDepth 10000

/-- a session and a Bool: own memory -/
def SeRes (x : Session) (b : Bool) (w : World) (e : Ending) (w' : World) : Prop := ∃ cs' fp', e = .returned (.tuple #[.agg cs'.toArray, .bool b]) ∧ Rp.rep w' cs' x fp' ∧ Fresh w.heap.size w' fp' ∧ Only [] w w'
def playW (x : Session) (l : List Int) : Session := ⟨x.puzzle, appW x.puzzle x.state l, pushW x.history l, []⟩
/-- what playIn leaves: another state -/
def PlayP (x : Session) (l : List Int) (vm vh vf : Value) (w : World) (e : Ending) (w' : World) : Prop :=
  ∃ A C f, e = .returned (.agg #[.int .i64 x.puzzle.points, .string x.puzzle.names, vm, .slice A (appW x.puzzle x.state l).length C, vh, vf]) ∧ Rd w' (.slice A (appW x.puzzle x.state l).length C) (appW x.puzzle x.state l) f ∧ Fresh w.heap.size w' f ∧ Only [] w w'
set_option maxHeartbeats 4000000 in
theorem playIn_any (x : Session) (l : List Int) (A2 A3 A4 A5 : Option Addr) (C2 C3 C4 C5 n4 n5 : Nat) (vl : Value) (f2 f3 fl : List Nat) (w : World) (h2 : Rd w (.slice A2 x.puzzle.moves.length C2) x.puzzle.moves f2) (h3 : Rd w (.slice A3 x.state.length C3) x.state f3)
    (hl : Rd w vl l fl) (hst : stateB x.puzzle x.state = true) (hlt : ∀ y ∈ l, y ∈ ltrs x.puzzle.moves.length) :
    Calls Try.prog 66 #[.agg #[.int .i64 x.puzzle.points, .string x.puzzle.names, .slice A2 x.puzzle.moves.length C2, .slice A3 x.state.length C3, .slice A4 n4 C4, .slice A5 n5 C5], vl] w (PlayP x l (.slice A2 x.puzzle.moves.length C2) (.slice A4 n4 C4) (.slice A5 n5 C5) w) := by
  obtain ⟨⟨n1, n20⟩, hml, hmp, hpn⟩ := stateB_pn hst
  have hev := evW_pn hmp l hlt
  have Hmp := Lib.hid hmp
  have Hpn := Lib.hid hpn
  have Hlt := Lib.hid hlt
  have Hev := Lib.hid hev
  have hW0 : Only [] w ((w.alloc (.cells #[.int .i64 x.puzzle.points, .string x.puzzle.names, .slice A2 x.puzzle.moves.length C2, .slice A3 x.state.length C3, .slice A4 n4 C4, .slice A5 n5 C5] 32)).alloc (.cells #[.int .i64 0, .string ⟨#[]⟩, .slice none 0 0, .slice none 0 0, .slice none 0 0, .slice none 0 0] 32)) := ((Only.refl _ _).alloc _).alloc _
  have hB : Blk ((w.alloc (.cells #[.int .i64 x.puzzle.points, .string x.puzzle.names, .slice A2 x.puzzle.moves.length C2, .slice A3 x.state.length C3, .slice A4 n4 C4, .slice A5 n5 C5] 32)).alloc (.cells #[.int .i64 0, .string ⟨#[]⟩, .slice none 0 0, .slice none 0 0, .slice none 0 0, .slice none 0 0] 32)) w.heap.size [.int .i64 x.puzzle.points, .string x.puzzle.names, .slice A2 x.puzzle.moves.length C2, .slice A3 x.state.length C3, .slice A4 n4 C4, .slice A5 n5 C5] := Blk.keep (Blk.new_at rfl) ((Only.refl _ _).alloc _)
  have HB := Lib.hid hB
  clear hmp hpn hlt hev hst hB
  go_enter Try.func66, Try.ntmps66
  go_wp2
  go_region_law (first
    | (go_simp; go_at_call 101; (with_reducible refine (specEvaluate_i x.puzzle.points n1 n20 _ _ x.puzzle.moves l _ _ _ (Rp.keep h2 (by with_reducible repeat (first | exact Only.refl _ _ | assumption | refine Only.drewN ?_ _ | refine Only.drew ?_ | refine Only.alloc ?_ _ | refine Only.setCell ?_ (by intro hh; exfalso; simp at hh; try omega) _ | refine Only.trans ?_ (by assumption)))) (Rp.keep hl (by with_reducible repeat (first | exact Only.refl _ _ | assumption | refine Only.drewN ?_ _ | refine Only.drew ?_ | refine Only.alloc ?_ _ | refine Only.setCell ?_ (by intro hh; exfalso; simp at hh; try omega) _ | refine Only.trans ?_ (by assumption)))) Hmp.out (by omega) Hlt.out).mono ?_); rintro en w3 ⟨v3, g3, rfl, r3, F3, t3⟩; have y3 := t3.cells_eq w.heap.size (by simp; omega) (by simp); have z3 := t3.frozen_eq w.heap.size (by simp; omega) (by simp); have y3' := t3.cells_eq (w.heap.size + 1) (by simp) (by simp); have z3' := t3.frozen_eq (w.heap.size + 1) (by simp) (by simp); have s3 : w.heap.size + 1 < w3.heap.size := (by have := t3.size; simp at this; omega))
    | (go_simp; go_at_call 100; (with_reducible refine (specCompose_rd x.puzzle.points.toNat _ _ _ _ _ _ _ (Rp.keep h3 (by with_reducible repeat (first | exact Only.refl _ _ | assumption | refine Only.drewN ?_ _ | refine Only.drew ?_ | refine Only.alloc ?_ _ | refine Only.setCell ?_ (by intro hh; exfalso; simp at hh; try omega) _ | refine Only.trans ?_ (by assumption)))) r3 Hpn.out Hev.out (by omega)).mono ?_); rintro en w4 ⟨v4, g4, rfl, r4, F4, t4⟩; obtain ⟨A6, C6, rfl, -⟩ := r4.ints; have y4 := t4.cells_eq w.heap.size (by omega) (by simp); have z4 := t4.frozen_eq w.heap.size (by omega) (by simp); have y4' := t4.cells_eq (w.heap.size + 1) (by omega) (by simp); have z4' := t4.frozen_eq (w.heap.size + 1) (by omega) (by simp))
    | fail "no arm")
  all_goals go_wp2
  all_goals have hW : Only [w.heap.size, w.heap.size + 1] w4 (((((((w4.setCell ⟨w.heap.size, 3, none⟩ (.slice A6 (PM.comp x.state (evW x.puzzle.points.toNat x.puzzle.moves l)).length C6)).setCell ⟨w.heap.size + 1, 0, none⟩ (.int .i64 x.puzzle.points)).setCell ⟨w.heap.size + 1, 1, none⟩ (.string x.puzzle.names)).setCell ⟨w.heap.size + 1, 2, none⟩ (.slice A2 x.puzzle.moves.length C2)).setCell ⟨w.heap.size + 1, 3, none⟩ (.slice A6 (PM.comp x.state (evW x.puzzle.points.toNat x.puzzle.moves l)).length C6)).setCell ⟨w.heap.size + 1, 4, none⟩ (.slice A4 n4 C4)).setCell ⟨w.heap.size + 1, 5, none⟩ (.slice A5 n5 C5)) := by with_reducible exact Only.setCell (Only.setCell (Only.setCell (Only.setCell (Only.setCell (Only.setCell (Only.setCell (Only.refl [w.heap.size, w.heap.size + 1] w4) (by intro _; simp) _) (by intro _; simp) _) (by intro _; simp) _) (by intro _; simp) _) (by intro _; simp) _) (by intro _; simp) _) (by intro _; simp) _
  all_goals have hG : ∀ b ∈ g4, b ∉ [w.heap.size, w.heap.size + 1] := (fun b hb hm => by have h5 := F4.ge b hb; simp at hm; omega)
  all_goals refine bodyPost_ret (v := .agg #[.int .i64 x.puzzle.points, .string x.puzzle.names, .slice A2 x.puzzle.moves.length C2, .slice A6 (PM.comp x.state (evW x.puzzle.points.toNat x.puzzle.moves l)).length C6, .slice A4 n4 C4, .slice A5 n5 C5]) (by simp [results, Try.results66, go_sem, y4', y3']) rfl ⟨A6, C6, g4, rfl, Rp.only r4 hW hG, (F4.only hW hG).mono (by omega), ?_⟩
  all_goals exact (hW0.trans ((Only.refl _ _).drew.trans (t3.trans t4))).then_ hW (fun b hb hl => by simp at hb; omega)
set_option maxHeartbeats 4000000 in
theorem specPlayWord_no (cs : List Value) (x : Session) (fp : List Nat) (vl : Value) (l : List Int) (fl : List Nat) (w : World) (h : Rp.rep w cs x fp) (hl : Rd w vl l fl) (hq : validSe x = false) :
    Calls Try.prog 32 #[.agg cs.toArray, vl] w (SeRes noSess false w) := by
  have h0 := h
  obtain ⟨c0, v1, v2, v3, f0, f1, f2, f3, rfl, rfl, k0, k1, k2, k3⟩ := h
  have q0 := k0
  obtain ⟨u2, rfl, p0, p1, h2⟩ := q0
  obtain ⟨A2, C2, _, _, rfl, -, -⟩ := h2.open_
  obtain ⟨A3, C3, _, _, rfl, -, -⟩ := k1.open_
  obtain ⟨A4, C4, _, _, rfl, -, -⟩ := k2.open_
  obtain ⟨A5, C5, _, _, rfl, -, -⟩ := k3.open_
  obtain ⟨al, cl, rfl, IL⟩ := hl.ints
  have hlb := IL.bound
  clear IL
  go_enter Try.func32, Try.ntmps32
  go_wp2_with (first
    | (go_at_call 11; (with_reducible refine (specIsValidSession_any [.int .i64 x.puzzle.points, .string x.puzzle.names, .slice A2 x.puzzle.moves.length C2, .slice A3 x.state.length C3, .slice A4 x.history.length C4, .slice A5 x.future.length C5] x _ _ (Rp.keep h0 (by with_reducible repeat (first | exact Only.refl _ _ | assumption | refine Only.drewN ?_ _ | refine Only.drew ?_ | refine Only.alloc ?_ _ | refine Only.setCell ?_ (by intro hh; exfalso; simp at hh; try omega) _ | refine Only.trans ?_ (by assumption))))).mono ?_); rintro en w1 ⟨rfl, t1⟩; have s1 : w.heap.size + 2 ≤ w1.heap.size := (by have := t1.size; simp at this; omega); have y1 := t1.cells_eq w.heap.size (by simp; omega) (by simp); have y1' := t1.cells_eq (w.heap.size + 1) (by simp) (by simp); have z1' := t1.frozen_eq (w.heap.size + 1) (by simp) (by simp))
    | fail "no arm")
  exact bodyPost_ret (v := .tuple #[.agg #[.int .i64 0, .string ⟨#[]⟩, .slice none 0 0, .slice none 0 0, .slice none 0 0, .slice none 0 0], .bool false]) (by simp [results, Try.results32, go_sem, y1']) rfl ⟨[.int .i64 0, .string ⟨#[]⟩, .slice none 0 0, .slice none 0 0, .slice none 0 0, .slice none 0 0], [], rfl, noSess_rep _, Fresh.nil _ _, (by with_reducible repeat (first | exact Only.refl _ _ | assumption | refine Only.drewN ?_ _ | refine Only.drew ?_ | refine Only.alloc ?_ _ | refine Only.setCell ?_ (by intro hh; exfalso; simp at hh; try omega) _ | refine Only.trans ?_ (by assumption)))⟩
set_option maxHeartbeats 4000000 in
theorem specPlayWord_bad (cs : List Value) (x : Session) (fp : List Nat) (vl : Value) (l : List Int) (fl : List Nat) (w : World) (h : Rp.rep w cs x fp) (hl : Rd w vl l fl) (hq : validSe x = true) (hw : validW x.puzzle.moves.length l = false) :
    Calls Try.prog 32 #[.agg cs.toArray, vl] w (SeRes x false w) := by
  have h0 := h
  obtain ⟨c0, v1, v2, v3, f0, f1, f2, f3, rfl, rfl, k0, k1, k2, k3⟩ := h
  have q0 := k0
  obtain ⟨u2, rfl, p0, p1, h2⟩ := q0
  obtain ⟨A2, C2, _, _, rfl, -, -⟩ := h2.open_
  obtain ⟨A3, C3, _, _, rfl, -, -⟩ := k1.open_
  obtain ⟨A4, C4, _, _, rfl, -, -⟩ := k2.open_
  obtain ⟨A5, C5, _, _, rfl, -, -⟩ := k3.open_
  obtain ⟨al, cl, rfl, IL⟩ := hl.ints
  have hlb := IL.bound
  clear IL
  have hml := (validSe_facts hq).2.1
  go_enter Try.func32, Try.ntmps32
  go_wp2_with (first
    | (go_at_call 11; (with_reducible refine (specIsValidSession_any [.int .i64 x.puzzle.points, .string x.puzzle.names, .slice A2 x.puzzle.moves.length C2, .slice A3 x.state.length C3, .slice A4 x.history.length C4, .slice A5 x.future.length C5] x _ _ (Rp.keep h0 (by with_reducible repeat (first | exact Only.refl _ _ | assumption | refine Only.drewN ?_ _ | refine Only.drew ?_ | refine Only.alloc ?_ _ | refine Only.setCell ?_ (by intro hh; exfalso; simp at hh; try omega) _ | refine Only.trans ?_ (by assumption))))).mono ?_); rintro en w1 ⟨rfl, t1⟩; have s1 : w.heap.size + 2 ≤ w1.heap.size := (by have := t1.size; simp at this; omega); have y1 := t1.cells_eq w.heap.size (by simp; omega) (by simp); have y1' := t1.cells_eq (w.heap.size + 1) (by simp) (by simp); have z1' := t1.frozen_eq (w.heap.size + 1) (by simp) (by simp))
    | (go_at_call 64; (with_reducible refine (copySession_any [.int .i64 x.puzzle.points, .string x.puzzle.names, .slice A2 x.puzzle.moves.length C2, .slice A3 x.state.length C3, .slice A4 x.history.length C4, .slice A5 x.future.length C5] x _ _ (Rp.keep h0 (by with_reducible repeat (first | exact Only.refl _ _ | assumption | refine Only.drewN ?_ _ | refine Only.drew ?_ | refine Only.alloc ?_ _ | refine Only.setCell ?_ (by intro hh; exfalso; simp at hh; try omega) _ | refine Only.trans ?_ (by assumption)))) hq).mono ?_); rintro en w2 ⟨Am, Cm, As, Cs, Ah, Ch, Af, Cf, gm, gs, hs, us, rfl, hP, t2⟩; have s2 : w.heap.size + 2 ≤ w2.heap.size := Nat.le_trans s1 t2.size; have y2 := t2.cells_eq w.heap.size (by omega) (by simp); have y2' := t2.cells_eq (w.heap.size + 1) (by omega) (by simp); have z2' := t2.frozen_eq (w.heap.size + 1) (by omega) (by simp); have HP := Lib.hid hP; clear hP; have s2a : w.heap.size < w2.heap.size := (by omega); have s2b : w.heap.size + 1 < w2.heap.size := (by omega))
    | (go_at_call 65; (with_reducible refine (isWordOf_rd x.puzzle.moves.length _ l _ _ (Rp.keep hl (by with_reducible repeat (first | exact Only.refl _ _ | assumption | refine Only.drewN ?_ _ | refine Only.drew ?_ | refine Only.alloc ?_ _ | refine Only.setCell ?_ (by intro hh; exfalso; simp at hh; try omega) _ | refine Only.trans ?_ (by assumption)))) (by omega) (by omega)).mono ?_); rintro en w3 ⟨rfl, m3, rfl⟩)
    | fail "no arm")
  have hP := HP.out
  have hlt := hP.fr.lt
  have hge := hP.fr.ge
  have hd : ∀ b ∈ gm ++ (gs ++ (((Value.slice Ah x.history.length Ch).ownBlock.toList ++ hs.flatten) ++ ((Value.slice Af x.future.length Cf).ownBlock.toList ++ us.flatten))), b ∉ [w2.heap.size, w.heap.size + 1] := fun b hb hm => by
    have h5 := hlt b hb
    have h6 := hge b hb
    simp at hm
    omega
  exact bodyPost_ret (v := .tuple #[.agg #[.int .i64 x.puzzle.points, .string x.puzzle.names, .slice Am x.puzzle.moves.length Cm, .slice As x.state.length Cs, .slice Ah x.history.length Ch, .slice Af x.future.length Cf], .bool false]) (by simp [results, Try.results32, go_sem, y2', y1', s2b]) rfl ⟨[.int .i64 x.puzzle.points, .string x.puzzle.names, .slice Am x.puzzle.moves.length Cm, .slice As x.state.length Cs, .slice Ah x.history.length Ch, .slice Af x.future.length Cf], _, rfl, Rp.only (fp' := [w2.heap.size, w.heap.size + 1]) hP.rep (by with_reducible repeat (first | exact Only.refl _ _ | assumption | refine Only.drewN ?_ _ | refine Only.drew ?_ | refine Only.alloc ?_ _ | refine Only.setCell ?_ (by intro _; simp) _ | refine Only.trans ?_ (Only.weaken (by assumption) _))) hd, (hP.fr.only (fp' := [w2.heap.size, w.heap.size + 1]) (by with_reducible repeat (first | exact Only.refl _ _ | assumption | refine Only.drewN ?_ _ | refine Only.drew ?_ | refine Only.alloc ?_ _ | refine Only.setCell ?_ (by intro _; simp) _ | refine Only.trans ?_ (Only.weaken (by assumption) _))) hd).mono (by omega), (by with_reducible repeat (first | exact Only.refl _ _ | assumption | refine Only.drewN ?_ _ | refine Only.drew ?_ | refine Only.alloc ?_ _ | refine Only.setCell ?_ (by intro hh; exfalso; simp at hh; try omega) _ | refine Only.trans ?_ (by assumption)))⟩
set_option maxHeartbeats 4000000 in
theorem specPlayWord_yes (cs : List Value) (x : Session) (fp : List Nat) (vl : Value) (l : List Int) (fl : List Nat) (w : World) (h : Rp.rep w cs x fp) (hl : Rd w vl l fl) (hq : validSe x = true) (hw : validW x.puzzle.moves.length l = true) :
    Calls Try.prog 32 #[.agg cs.toArray, vl] w (SeRes (playW x l) true w) := by
  have h0 := h
  obtain ⟨c0, v1, v2, v3, f0, f1, f2, f3, rfl, rfl, k0, k1, k2, k3⟩ := h
  have q0 := k0
  obtain ⟨u2, rfl, p0, p1, h2⟩ := q0
  obtain ⟨A2, C2, _, _, rfl, -, -⟩ := h2.open_
  obtain ⟨A3, C3, _, _, rfl, -, -⟩ := k1.open_
  obtain ⟨A4, C4, _, _, rfl, -, -⟩ := k2.open_
  obtain ⟨A5, C5, _, _, rfl, -, -⟩ := k3.open_
  obtain ⟨al, cl, rfl, IL⟩ := hl.ints
  have hlb := IL.bound
  clear IL
  obtain ⟨hst, hml, -, -, hhl, hh2, -, -⟩ := validSe_facts hq
  obtain ⟨hl200, hlt⟩ := validW_ltrs hml hw
  have Hst := Lib.hid hst
  have Hh2 := Lib.hid hh2
  have Hlt := Lib.hid hlt
  clear hst hh2 hlt
  go_enter Try.func32, Try.ntmps32
  go_wp2_with (first
    | (go_at_call 11; (with_reducible refine (specIsValidSession_any [.int .i64 x.puzzle.points, .string x.puzzle.names, .slice A2 x.puzzle.moves.length C2, .slice A3 x.state.length C3, .slice A4 x.history.length C4, .slice A5 x.future.length C5] x _ _ (Rp.keep h0 (by with_reducible repeat (first | exact Only.refl _ _ | assumption | refine Only.drewN ?_ _ | refine Only.drew ?_ | refine Only.alloc ?_ _ | refine Only.setCell ?_ (by intro hh; exfalso; simp at hh; try omega) _ | refine Only.trans ?_ (by assumption))))).mono ?_); rintro en w1 ⟨rfl, t1⟩; have s1 : w.heap.size + 2 ≤ w1.heap.size := (by have := t1.size; simp at this; omega); have y1 := t1.cells_eq w.heap.size (by simp; omega) (by simp); have y1' := t1.cells_eq (w.heap.size + 1) (by simp) (by simp); have z1' := t1.frozen_eq (w.heap.size + 1) (by simp) (by simp))
    | (go_at_call 64; (with_reducible refine (copySession_any [.int .i64 x.puzzle.points, .string x.puzzle.names, .slice A2 x.puzzle.moves.length C2, .slice A3 x.state.length C3, .slice A4 x.history.length C4, .slice A5 x.future.length C5] x _ _ (Rp.keep h0 (by with_reducible repeat (first | exact Only.refl _ _ | assumption | refine Only.drewN ?_ _ | refine Only.drew ?_ | refine Only.alloc ?_ _ | refine Only.setCell ?_ (by intro hh; exfalso; simp at hh; try omega) _ | refine Only.trans ?_ (by assumption)))) hq).mono ?_); rintro en w2 ⟨Am, Cm, As, Cs, Ah, Ch, Af, Cf, gm, gs, hs, us, rfl, hP, t2⟩; have s2 : w.heap.size + 2 ≤ w2.heap.size := Nat.le_trans s1 t2.size; have y2 := t2.cells_eq w.heap.size (by omega) (by simp); have y2' := t2.cells_eq (w.heap.size + 1) (by omega) (by simp); have z2' := t2.frozen_eq (w.heap.size + 1) (by omega) (by simp); have HP := Lib.hid hP; clear hP; have s2a : w.heap.size < w2.heap.size := (by omega); have s2b : w.heap.size + 1 < w2.heap.size := (by omega))
    | (go_at_call 65; (with_reducible refine (isWordOf_rd x.puzzle.moves.length _ l _ _ (Rp.keep hl (by with_reducible repeat (first | exact Only.refl _ _ | assumption | refine Only.drewN ?_ _ | refine Only.drew ?_ | refine Only.alloc ?_ _ | refine Only.setCell ?_ (by intro hh; exfalso; simp at hh; try omega) _ | refine Only.trans ?_ (by assumption)))) (by omega) (by omega)).mono ?_); rintro en w3 ⟨rfl, m3, rfl⟩)
    | (go_at_call 66; (with_reducible refine (playIn_any x l Am As Ah Af Cm Cs Ch Cf x.history.length x.future.length _ gm gs fl _ (Rp.keep HP.out.mv (by with_reducible repeat (first | exact Only.refl _ _ | assumption | refine Only.drewN ?_ _ | refine Only.drew ?_ | refine Only.alloc ?_ _ | refine Only.setCell ?_ (by intro hh; exfalso; simp at hh; try omega) _ | refine Only.trans ?_ (by assumption)))) (Rp.keep HP.out.st (by with_reducible repeat (first | exact Only.refl _ _ | assumption | refine Only.drewN ?_ _ | refine Only.drew ?_ | refine Only.alloc ?_ _ | refine Only.setCell ?_ (by intro hh; exfalso; simp at hh; try omega) _ | refine Only.trans ?_ (by assumption)))) (Rp.keep hl (by with_reducible repeat (first | exact Only.refl _ _ | assumption | refine Only.drewN ?_ _ | refine Only.drew ?_ | refine Only.alloc ?_ _ | refine Only.setCell ?_ (by intro hh; exfalso; simp at hh; try omega) _ | refine Only.trans ?_ (by assumption)))) Hst.out Hlt.out).mono ?_); rintro en w4 ⟨A, C, g4, rfl, r4, F4, t4⟩; have s4 : w2.heap.size + 1 ≤ w4.heap.size := (by have := t4.size; simp at this; omega); have s4a : w.heap.size + 1 < w4.heap.size := (by omega); have s4b : w2.heap.size < w4.heap.size := (by omega); have B4 : Blk w4 w2.heap.size [.int .i64 x.puzzle.points, .string x.puzzle.names, .slice Am x.puzzle.moves.length Cm, .slice As x.state.length Cs, .slice Ah x.history.length Ch, .slice Af x.future.length Cf] := Blk.keep (Blk.new w2 _ 32) ((Only.ofDrewN _ m3 []).trans t4); have c40 := B4.cell 0 rfl; have c41 := B4.cell 1 rfl; have c42 := B4.cell 2 rfl; have c43 := B4.cell 3 rfl; have c44 := B4.cell 4 rfl; have c45 := B4.cell 5 rfl; have z4 := B4.frozen; have HB4 := Lib.hid B4; clear B4; have y4' := t4.cells_eq (w.heap.size + 1) (by simp; omega) (by simp); have z4' := t4.frozen_eq (w.heap.size + 1) (by simp; omega) (by simp))
    | (go_at_call 67; (with_reducible refine (pushWord_rd _ _ x.history l _ fl _ (Rp.keep (HP.out.hi.rd (by decide)) (by with_reducible repeat (first | exact Only.refl _ _ | assumption | refine Only.drewN ?_ _ | refine Only.drew ?_ | refine Only.alloc ?_ _ | refine Only.setCell ?_ (by intro hh; exfalso; simp at hh; try omega) _ | refine Only.trans ?_ (by assumption)))) (Rp.keep hl (by with_reducible repeat (first | exact Only.refl _ _ | assumption | refine Only.drewN ?_ _ | refine Only.drew ?_ | refine Only.alloc ?_ _ | refine Only.setCell ?_ (by intro hh; exfalso; simp at hh; try omega) _ | refine Only.trans ?_ (by assumption)))) hhl Hh2.out (by omega)).mono ?_); rintro en w5 ⟨v5, g5, rfl, r5, F5, t5⟩; obtain ⟨A5', C5', _, _, rfl, -, -⟩ := r5.open_; have s5 : w4.heap.size ≤ w5.heap.size := (by have := t5.size; simpa using this); have s5a : w.heap.size + 1 < w5.heap.size := (by omega); have s5b : w2.heap.size < w5.heap.size := (by omega); have B5 := Blk.keep (Blk.set (Blk.set (Blk.set (Blk.set (Blk.set (Blk.set HB4.out 0 (.int .i64 x.puzzle.points)) 1 (.string x.puzzle.names)) 2 (.slice Am x.puzzle.moves.length Cm)) 3 (.slice A (appW x.puzzle x.state l).length C)) 4 (.slice Ah x.history.length Ch)) 5 (.slice Af x.future.length Cf)) t5; have c50 := B5.cell 0 rfl; have c51 := B5.cell 1 rfl; have c52 := B5.cell 2 rfl; have c53 := B5.cell 3 rfl; have c54 := B5.cell 4 rfl; have c55 := B5.cell 5 rfl; have z5 := B5.frozen; clear B5; have y5' := t5.cells_eq (w.heap.size + 1) (by simp; omega) (by simp); have z5' := t5.frozen_eq (w.heap.size + 1) (by simp; omega) (by simp))
    | fail "no arm")
  have FM := HP.out.fr.left
  have e3 : ((w2.alloc (.cells #[.int .i64 x.puzzle.points, .string x.puzzle.names, .slice Am x.puzzle.moves.length Cm, .slice As x.state.length Cs, .slice Ah x.history.length Ch, .slice Af x.future.length Cf] 32)).drewN m3).heap.size = w2.heap.size + 1 := by simp
  have G4 : ∀ b ∈ g4, w2.heap.size + 1 ≤ b := fun b hb => by have := F4.ge b hb; omega
  have G5 : ∀ b ∈ g5, w4.heap.size ≤ b := fun b hb => by have := F5.ge b hb; simpa using this
  have dm : ∀ b ∈ gm, b ∉ [w2.heap.size, w.heap.size + 1] := fun b hb hm => by
    have h5 := FM.lt b hb
    have h6 := FM.ge b hb
    simp at hm
    omega
  have d4 : ∀ b ∈ g4, b ∉ [w2.heap.size, w.heap.size + 1] := fun b hb hm => by
    have h5 := G4 b hb
    simp at hm
    omega
  have d5 : ∀ b ∈ g5, b ∉ [w2.heap.size, w.heap.size + 1] := fun b hb hm => by
    have h5 := G5 b hb
    simp at hm
    omega
  refine bodyPost_ret (v := .tuple #[.agg #[.int .i64 x.puzzle.points, .string x.puzzle.names, .slice Am x.puzzle.moves.length Cm, .slice A (appW x.puzzle x.state l).length C, .slice A5' (pushW x.history l).length C5', .slice (some ⟨w5.heap.size, 0, none⟩) 0 0], .bool true]) (by simp [results, Try.results32, go_sem, y5', y4', y2', y1', s2b, s5a]) rfl ⟨[.int .i64 x.puzzle.points, .string x.puzzle.names, .slice Am x.puzzle.moves.length Cm, .slice A (appW x.puzzle x.state l).length C, .slice A5' (pushW x.history l).length C5', .slice (some ⟨w5.heap.size, 0, none⟩) 0 0], gm ++ (g4 ++ (g5 ++ [])), rfl,
    ⟨[.int .i64 x.puzzle.points, .string x.puzzle.names, .slice Am x.puzzle.moves.length Cm], _, _, _, gm, g4, g5, [], rfl, rfl, ⟨_, rfl, p0, p1, Rp.only (fp' := [w2.heap.size, w.heap.size + 1]) HP.out.mv (by with_reducible repeat (first | exact Only.refl _ _ | assumption | refine Only.drewN ?_ _ | refine Only.drew ?_ | refine Only.alloc ?_ _ | refine Only.setCell ?_ (by intro _; simp) _ | refine Only.trans ?_ (Only.weaken (by assumption) _))) dm⟩, Rp.only (fp' := [w2.heap.size, w.heap.size + 1]) r4 (by with_reducible repeat (first | exact Only.refl _ _ | assumption | refine Only.drewN ?_ _ | refine Only.drew ?_ | refine Only.alloc ?_ _ | refine Only.setCell ?_ (by intro _; simp) _ | refine Only.trans ?_ (Only.weaken (by assumption) _))) d4, Rp.only (fp' := [w2.heap.size, w.heap.size + 1]) r5 (by with_reducible repeat (first | exact Only.refl _ _ | assumption | refine Only.drewN ?_ _ | refine Only.drew ?_ | refine Only.alloc ?_ _ | refine Only.setCell ?_ (by intro _; simp) _ | refine Only.trans ?_ (Only.weaken (by assumption) _))) d5, (SeqA.nil _ _ (cap := 0) (by simp [maxLen])).rd⟩, ?_, ?_⟩
  · exact (Fresh.append (B' := w2.heap.size + 1) (FM.only (fp' := [w2.heap.size, w.heap.size + 1]) (by with_reducible repeat (first | exact Only.refl _ _ | assumption | refine Only.drewN ?_ _ | refine Only.drew ?_ | refine Only.alloc ?_ _ | refine Only.setCell ?_ (by intro _; simp) _ | refine Only.trans ?_ (Only.weaken (by assumption) _))) dm) (Fresh.append (B' := w4.heap.size) ((F4.only (fp' := [w2.heap.size, w.heap.size + 1]) (by with_reducible repeat (first | exact Only.refl _ _ | assumption | refine Only.drewN ?_ _ | refine Only.drew ?_ | refine Only.alloc ?_ _ | refine Only.setCell ?_ (by intro _; simp) _ | refine Only.trans ?_ (Only.weaken (by assumption) _))) d4).mono (by omega)) (Fresh.append (B' := w5.heap.size) ((F5.only (fp' := [w2.heap.size, w.heap.size + 1]) (by with_reducible repeat (first | exact Only.refl _ _ | assumption | refine Only.drewN ?_ _ | refine Only.drew ?_ | refine Only.alloc ?_ _ | refine Only.setCell ?_ (by intro _; simp) _ | refine Only.trans ?_ (Only.weaken (by assumption) _))) d5).mono (by simp)) (Fresh.nil _ _) s5 (fun b hb => F5.lt b hb)) s4 (fun b hb => F4.lt b hb)) (by have := t2.size; omega) (fun b hb => by have := FM.lt b hb; omega)).mono (by omega)
  · exact (by with_reducible repeat (first | exact Only.refl _ _ | assumption | refine Only.drewN ?_ _ | refine Only.drew ?_ | refine Only.alloc ?_ _ | refine Only.setCell ?_ (by intro hh; exfalso; simp at hh; try omega) _ | refine Only.trans ?_ (by assumption)))
set_option maxHeartbeats 4000000 in
theorem implPlayWord_no (cs : List Value) (x : Session) (fp : List Nat) (vl : Value) (l : List Int) (fl : List Nat) (w : World) (h : Rp.rep w cs x fp) (hl : Rd w vl l fl) (hq : validSe x = false) :
    Calls Try.prog 34 #[.agg cs.toArray, vl] w (SeRes noSess false w) := by
  have h0 := h
  obtain ⟨c0, v1, v2, v3, f0, f1, f2, f3, rfl, rfl, k0, k1, k2, k3⟩ := h
  have q0 := k0
  obtain ⟨u2, rfl, p0, p1, h2⟩ := q0
  obtain ⟨A2, C2, _, _, rfl, -, -⟩ := h2.open_
  obtain ⟨A3, C3, _, _, rfl, -, -⟩ := k1.open_
  obtain ⟨A4, C4, _, _, rfl, -, -⟩ := k2.open_
  obtain ⟨A5, C5, _, _, rfl, -, -⟩ := k3.open_
  obtain ⟨al, cl, rfl, IL⟩ := hl.ints
  have hlb := IL.bound
  clear IL
  go_enter Try.func34, Try.ntmps34
  go_wp2_with (first
    | (go_at_call 13; (with_reducible refine (implIsValidSession_any [.int .i64 x.puzzle.points, .string x.puzzle.names, .slice A2 x.puzzle.moves.length C2, .slice A3 x.state.length C3, .slice A4 x.history.length C4, .slice A5 x.future.length C5] x _ _ (Rp.keep h0 (by with_reducible repeat (first | exact Only.refl _ _ | assumption | refine Only.drewN ?_ _ | refine Only.drew ?_ | refine Only.alloc ?_ _ | refine Only.setCell ?_ (by intro hh; exfalso; simp at hh; try omega) _ | refine Only.trans ?_ (by assumption))))).mono ?_); rintro en w1 ⟨rfl, t1⟩; have s1 : w.heap.size + 2 ≤ w1.heap.size := (by have := t1.size; simp at this; omega); have y1 := t1.cells_eq w.heap.size (by simp; omega) (by simp); have y1' := t1.cells_eq (w.heap.size + 1) (by simp) (by simp); have z1' := t1.frozen_eq (w.heap.size + 1) (by simp) (by simp))
    | fail "no arm")
  exact bodyPost_ret (v := .tuple #[.agg #[.int .i64 0, .string ⟨#[]⟩, .slice none 0 0, .slice none 0 0, .slice none 0 0, .slice none 0 0], .bool false]) (by simp [results, Try.results34, go_sem, y1']) rfl ⟨[.int .i64 0, .string ⟨#[]⟩, .slice none 0 0, .slice none 0 0, .slice none 0 0, .slice none 0 0], [], rfl, noSess_rep _, Fresh.nil _ _, (by with_reducible repeat (first | exact Only.refl _ _ | assumption | refine Only.drewN ?_ _ | refine Only.drew ?_ | refine Only.alloc ?_ _ | refine Only.setCell ?_ (by intro hh; exfalso; simp at hh; try omega) _ | refine Only.trans ?_ (by assumption)))⟩
set_option maxHeartbeats 4000000 in
theorem implPlayWord_bad (cs : List Value) (x : Session) (fp : List Nat) (vl : Value) (l : List Int) (fl : List Nat) (w : World) (h : Rp.rep w cs x fp) (hl : Rd w vl l fl) (hq : validSe x = true) (hw : validW x.puzzle.moves.length l = false) :
    Calls Try.prog 34 #[.agg cs.toArray, vl] w (SeRes x false w) := by
  have h0 := h
  obtain ⟨c0, v1, v2, v3, f0, f1, f2, f3, rfl, rfl, k0, k1, k2, k3⟩ := h
  have q0 := k0
  obtain ⟨u2, rfl, p0, p1, h2⟩ := q0
  obtain ⟨A2, C2, _, _, rfl, -, -⟩ := h2.open_
  obtain ⟨A3, C3, _, _, rfl, -, -⟩ := k1.open_
  obtain ⟨A4, C4, _, _, rfl, -, -⟩ := k2.open_
  obtain ⟨A5, C5, _, _, rfl, -, -⟩ := k3.open_
  obtain ⟨al, cl, rfl, IL⟩ := hl.ints
  have hlb := IL.bound
  clear IL
  have hml := (validSe_facts hq).2.1
  go_enter Try.func34, Try.ntmps34
  go_wp2_with (first
    | (go_at_call 13; (with_reducible refine (implIsValidSession_any [.int .i64 x.puzzle.points, .string x.puzzle.names, .slice A2 x.puzzle.moves.length C2, .slice A3 x.state.length C3, .slice A4 x.history.length C4, .slice A5 x.future.length C5] x _ _ (Rp.keep h0 (by with_reducible repeat (first | exact Only.refl _ _ | assumption | refine Only.drewN ?_ _ | refine Only.drew ?_ | refine Only.alloc ?_ _ | refine Only.setCell ?_ (by intro hh; exfalso; simp at hh; try omega) _ | refine Only.trans ?_ (by assumption))))).mono ?_); rintro en w1 ⟨rfl, t1⟩; have s1 : w.heap.size + 2 ≤ w1.heap.size := (by have := t1.size; simp at this; omega); have y1 := t1.cells_eq w.heap.size (by simp; omega) (by simp); have y1' := t1.cells_eq (w.heap.size + 1) (by simp) (by simp); have z1' := t1.frozen_eq (w.heap.size + 1) (by simp) (by simp))
    | (go_at_call 68; (with_reducible refine (cloneSession_any [.int .i64 x.puzzle.points, .string x.puzzle.names, .slice A2 x.puzzle.moves.length C2, .slice A3 x.state.length C3, .slice A4 x.history.length C4, .slice A5 x.future.length C5] x _ _ (Rp.keep h0 (by with_reducible repeat (first | exact Only.refl _ _ | assumption | refine Only.drewN ?_ _ | refine Only.drew ?_ | refine Only.alloc ?_ _ | refine Only.setCell ?_ (by intro hh; exfalso; simp at hh; try omega) _ | refine Only.trans ?_ (by assumption)))) hq).mono ?_); rintro en w2 ⟨Am, Cm, As, Cs, Ah, Ch, Af, Cf, gm, gs, hs, us, rfl, hP, t2⟩; have s2 : w.heap.size + 2 ≤ w2.heap.size := Nat.le_trans s1 t2.size; have y2 := t2.cells_eq w.heap.size (by omega) (by simp); have y2' := t2.cells_eq (w.heap.size + 1) (by omega) (by simp); have z2' := t2.frozen_eq (w.heap.size + 1) (by omega) (by simp); have HP := Lib.hid hP; clear hP; have s2a : w.heap.size < w2.heap.size := (by omega); have s2b : w.heap.size + 1 < w2.heap.size := (by omega))
    | (go_at_call 69; (with_reducible refine (implPIsWord_any [.int .i64 x.puzzle.points, .string x.puzzle.names, .slice A2 x.puzzle.moves.length C2] x.puzzle _ _ l _ _ (Rp.keep k0 (by with_reducible repeat (first | exact Only.refl _ _ | assumption | refine Only.drewN ?_ _ | refine Only.drew ?_ | refine Only.alloc ?_ _ | refine Only.setCell ?_ (by intro hh; exfalso; simp at hh; try omega) _ | refine Only.trans ?_ (by assumption)))) (Rp.keep hl (by with_reducible repeat (first | exact Only.refl _ _ | assumption | refine Only.drewN ?_ _ | refine Only.drew ?_ | refine Only.alloc ?_ _ | refine Only.setCell ?_ (by intro hh; exfalso; simp at hh; try omega) _ | refine Only.trans ?_ (by assumption)))) (by omega)).mono ?_); rintro en w3 ⟨rfl, t3⟩; have s3 : w2.heap.size + 1 ≤ w3.heap.size := (by have := t3.size; simpa using this); have s3a : w.heap.size + 1 < w3.heap.size := (by omega); have s3b : w2.heap.size < w3.heap.size := (by omega); have s3c : w.heap.size < w3.heap.size := (by omega); have B3 : Blk w3 w2.heap.size [.int .i64 x.puzzle.points, .string x.puzzle.names, .slice Am x.puzzle.moves.length Cm, .slice As x.state.length Cs, .slice Ah x.history.length Ch, .slice Af x.future.length Cf] := Blk.keep (Blk.new w2 _ 32) t3; have c30 := B3.cell 0 rfl; have c31 := B3.cell 1 rfl; have c32 := B3.cell 2 rfl; have c33 := B3.cell 3 rfl; have c34 := B3.cell 4 rfl; have c35 := B3.cell 5 rfl; have z3 := B3.frozen; have HB3 := Lib.hid B3; clear B3; have y3 := t3.cells_eq w.heap.size (by simp; omega) (by simp); have y3' := t3.cells_eq (w.heap.size + 1) (by simp; omega) (by simp); have z3' := t3.frozen_eq (w.heap.size + 1) (by simp; omega) (by simp))
    | fail "no arm")
  have hP := HP.out
  have hlt := hP.fr.lt
  have hge := hP.fr.ge
  have hd : ∀ b ∈ gm ++ (gs ++ (((Value.slice Ah x.history.length Ch).ownBlock.toList ++ hs.flatten) ++ ((Value.slice Af x.future.length Cf).ownBlock.toList ++ us.flatten))), b ∉ [w2.heap.size, w.heap.size + 1] := fun b hb hm => by
    have h5 := hlt b hb
    have h6 := hge b hb
    simp at hm
    omega
  exact bodyPost_ret (v := .tuple #[.agg #[.int .i64 x.puzzle.points, .string x.puzzle.names, .slice Am x.puzzle.moves.length Cm, .slice As x.state.length Cs, .slice Ah x.history.length Ch, .slice Af x.future.length Cf], .bool false]) (by simp [results, Try.results34, go_sem, y3', y2', y1', s2b]) rfl ⟨[.int .i64 x.puzzle.points, .string x.puzzle.names, .slice Am x.puzzle.moves.length Cm, .slice As x.state.length Cs, .slice Ah x.history.length Ch, .slice Af x.future.length Cf], _, rfl, Rp.only (fp' := [w2.heap.size, w.heap.size + 1]) hP.rep (by with_reducible repeat (first | exact Only.refl _ _ | assumption | refine Only.drewN ?_ _ | refine Only.drew ?_ | refine Only.alloc ?_ _ | refine Only.setCell ?_ (by intro _; simp) _ | refine Only.trans ?_ (Only.weaken (by assumption) _))) hd, (hP.fr.only (fp' := [w2.heap.size, w.heap.size + 1]) (by with_reducible repeat (first | exact Only.refl _ _ | assumption | refine Only.drewN ?_ _ | refine Only.drew ?_ | refine Only.alloc ?_ _ | refine Only.setCell ?_ (by intro _; simp) _ | refine Only.trans ?_ (Only.weaken (by assumption) _))) hd).mono (by omega), (by with_reducible repeat (first | exact Only.refl _ _ | assumption | refine Only.drewN ?_ _ | refine Only.drew ?_ | refine Only.alloc ?_ _ | refine Only.setCell ?_ (by intro hh; exfalso; simp at hh; try omega) _ | refine Only.trans ?_ (by assumption)))⟩
set_option maxHeartbeats 4000000 in
theorem implPlayWord_yes (cs : List Value) (x : Session) (fp : List Nat) (vl : Value) (l : List Int) (fl : List Nat) (w : World) (h : Rp.rep w cs x fp) (hl : Rd w vl l fl) (hq : validSe x = true) (hw : validW x.puzzle.moves.length l = true) :
    Calls Try.prog 34 #[.agg cs.toArray, vl] w (SeRes (playW x l) true w) := by
  have h0 := h
  obtain ⟨c0, v1, v2, v3, f0, f1, f2, f3, rfl, rfl, k0, k1, k2, k3⟩ := h
  have q0 := k0
  obtain ⟨u2, rfl, p0, p1, h2⟩ := q0
  obtain ⟨A2, C2, _, _, rfl, -, -⟩ := h2.open_
  obtain ⟨A3, C3, _, _, rfl, -, -⟩ := k1.open_
  obtain ⟨A4, C4, _, _, rfl, -, -⟩ := k2.open_
  obtain ⟨A5, C5, _, _, rfl, -, -⟩ := k3.open_
  obtain ⟨al, cl, rfl, IL⟩ := hl.ints
  have hlb := IL.bound
  clear IL
  obtain ⟨hst, hml, -, -, hhl, -, -, -⟩ := validSe_facts hq
  obtain ⟨hl200, hlt⟩ := validW_ltrs hml hw
  have Hst := Lib.hid hst
  have Hlt := Lib.hid hlt
  clear hst hlt
  go_enter Try.func34, Try.ntmps34
  go_wp2_with (first
    | (go_at_call 13; (with_reducible refine (implIsValidSession_any [.int .i64 x.puzzle.points, .string x.puzzle.names, .slice A2 x.puzzle.moves.length C2, .slice A3 x.state.length C3, .slice A4 x.history.length C4, .slice A5 x.future.length C5] x _ _ (Rp.keep h0 (by with_reducible repeat (first | exact Only.refl _ _ | assumption | refine Only.drewN ?_ _ | refine Only.drew ?_ | refine Only.alloc ?_ _ | refine Only.setCell ?_ (by intro hh; exfalso; simp at hh; try omega) _ | refine Only.trans ?_ (by assumption))))).mono ?_); rintro en w1 ⟨rfl, t1⟩; have s1 : w.heap.size + 2 ≤ w1.heap.size := (by have := t1.size; simp at this; omega); have y1 := t1.cells_eq w.heap.size (by simp; omega) (by simp); have y1' := t1.cells_eq (w.heap.size + 1) (by simp) (by simp); have z1' := t1.frozen_eq (w.heap.size + 1) (by simp) (by simp))
    | (go_at_call 68; (with_reducible refine (cloneSession_any [.int .i64 x.puzzle.points, .string x.puzzle.names, .slice A2 x.puzzle.moves.length C2, .slice A3 x.state.length C3, .slice A4 x.history.length C4, .slice A5 x.future.length C5] x _ _ (Rp.keep h0 (by with_reducible repeat (first | exact Only.refl _ _ | assumption | refine Only.drewN ?_ _ | refine Only.drew ?_ | refine Only.alloc ?_ _ | refine Only.setCell ?_ (by intro hh; exfalso; simp at hh; try omega) _ | refine Only.trans ?_ (by assumption)))) hq).mono ?_); rintro en w2 ⟨Am, Cm, As, Cs, Ah, Ch, Af, Cf, gm, gs, hs, us, rfl, hP, t2⟩; have s2 : w.heap.size + 2 ≤ w2.heap.size := Nat.le_trans s1 t2.size; have y2 := t2.cells_eq w.heap.size (by omega) (by simp); have y2' := t2.cells_eq (w.heap.size + 1) (by omega) (by simp); have z2' := t2.frozen_eq (w.heap.size + 1) (by omega) (by simp); have HP := Lib.hid hP; clear hP; have s2a : w.heap.size < w2.heap.size := (by omega); have s2b : w.heap.size + 1 < w2.heap.size := (by omega))
    | (go_at_call 69; (with_reducible refine (implPIsWord_any [.int .i64 x.puzzle.points, .string x.puzzle.names, .slice A2 x.puzzle.moves.length C2] x.puzzle _ _ l _ _ (Rp.keep k0 (by with_reducible repeat (first | exact Only.refl _ _ | assumption | refine Only.drewN ?_ _ | refine Only.drew ?_ | refine Only.alloc ?_ _ | refine Only.setCell ?_ (by intro hh; exfalso; simp at hh; try omega) _ | refine Only.trans ?_ (by assumption)))) (Rp.keep hl (by with_reducible repeat (first | exact Only.refl _ _ | assumption | refine Only.drewN ?_ _ | refine Only.drew ?_ | refine Only.alloc ?_ _ | refine Only.setCell ?_ (by intro hh; exfalso; simp at hh; try omega) _ | refine Only.trans ?_ (by assumption)))) (by omega)).mono ?_); rintro en w3 ⟨rfl, t3⟩; have s3 : w2.heap.size + 1 ≤ w3.heap.size := (by have := t3.size; simpa using this); have s3a : w.heap.size + 1 < w3.heap.size := (by omega); have s3b : w2.heap.size < w3.heap.size := (by omega); have s3c : w.heap.size < w3.heap.size := (by omega); have B3 : Blk w3 w2.heap.size [.int .i64 x.puzzle.points, .string x.puzzle.names, .slice Am x.puzzle.moves.length Cm, .slice As x.state.length Cs, .slice Ah x.history.length Ch, .slice Af x.future.length Cf] := Blk.keep (Blk.new w2 _ 32) t3; have c30 := B3.cell 0 rfl; have c31 := B3.cell 1 rfl; have c32 := B3.cell 2 rfl; have c33 := B3.cell 3 rfl; have c34 := B3.cell 4 rfl; have c35 := B3.cell 5 rfl; have z3 := B3.frozen; have HB3 := Lib.hid B3; clear B3; have y3 := t3.cells_eq w.heap.size (by simp; omega) (by simp); have y3' := t3.cells_eq (w.heap.size + 1) (by simp; omega) (by simp); have z3' := t3.frozen_eq (w.heap.size + 1) (by simp; omega) (by simp))
    | (go_at_call 70; (with_reducible refine (implApply_any [.int .i64 x.puzzle.points, .string x.puzzle.names, .slice A2 x.puzzle.moves.length C2] x.puzzle _ _ _ x.state l _ _ _ (Rp.keep k0 (by with_reducible repeat (first | exact Only.refl _ _ | assumption | refine Only.drewN ?_ _ | refine Only.drew ?_ | refine Only.alloc ?_ _ | refine Only.setCell ?_ (by intro hh; exfalso; simp at hh; try omega) _ | refine Only.trans ?_ (by assumption)))) (Rp.keep k1 (by with_reducible repeat (first | exact Only.refl _ _ | assumption | refine Only.drewN ?_ _ | refine Only.drew ?_ | refine Only.alloc ?_ _ | refine Only.setCell ?_ (by intro hh; exfalso; simp at hh; try omega) _ | refine Only.trans ?_ (by assumption)))) (Rp.keep hl (by with_reducible repeat (first | exact Only.refl _ _ | assumption | refine Only.drewN ?_ _ | refine Only.drew ?_ | refine Only.alloc ?_ _ | refine Only.setCell ?_ (by intro hh; exfalso; simp at hh; try omega) _ | refine Only.trans ?_ (by assumption)))) Hst.out Hlt.out).mono ?_); rintro en w4 ⟨v4, g4, rfl, r4, F4, t4⟩; obtain ⟨A, C, _, _, rfl, -, -⟩ := r4.open_; have s4 : w3.heap.size ≤ w4.heap.size := t4.size; have s4a : w.heap.size + 1 < w4.heap.size := (by omega); have s4b : w2.heap.size < w4.heap.size := (by omega); have B4 := Blk.keep HB3.out t4; have c40 := B4.cell 0 rfl; have c41 := B4.cell 1 rfl; have c42 := B4.cell 2 rfl; have c43 := B4.cell 3 rfl; have c44 := B4.cell 4 rfl; have c45 := B4.cell 5 rfl; have z4 := B4.frozen; have HB4 := Lib.hid B4; clear B4; have y4' := t4.cells_eq (w.heap.size + 1) (by omega) (by simp); have z4' := t4.frozen_eq (w.heap.size + 1) (by omega) (by simp))
    | (go_at_call 71; (with_reducible refine (pushed_acc (B := w1.heap.size) (.slice Ah x.history.length Ch) _ x.history l hs fl _ (HP.out.hi.keep (by with_reducible repeat (first | exact Only.refl _ _ | assumption | refine Only.drewN ?_ _ | refine Only.drew ?_ | refine Only.alloc ?_ _ | refine Only.setCell ?_ (by intro hh; exfalso; simp at hh; try omega) _ | refine Only.trans ?_ (by assumption)))) (Fresh.keep HP.out.fr.right.right.left.right (by with_reducible repeat (first | exact Only.refl _ _ | assumption | refine Only.drewN ?_ _ | refine Only.drew ?_ | refine Only.alloc ?_ _ | refine Only.setCell ?_ (by intro hh; exfalso; simp at hh; try omega) _ | refine Only.trans ?_ (by assumption)))) (Rp.keep hl (by with_reducible repeat (first | exact Only.refl _ _ | assumption | refine Only.drewN ?_ _ | refine Only.drew ?_ | refine Only.alloc ?_ _ | refine Only.setCell ?_ (by intro hh; exfalso; simp at hh; try omega) _ | refine Only.trans ?_ (by assumption)))) (by have := t2.size; simp; omega) hhl (by omega)).mono ?_); rintro en w5 ⟨v5, g5, rfl, r5, F5, hs5, t5⟩; obtain ⟨A5', C5', _, _, rfl, -, -⟩ := r5.open_; have hvo : ∀ b ∈ (Value.slice Ah x.history.length Ch).ownBlock.toList, w1.heap.size ≤ b ∧ b < w2.heap.size := (fun b hb => HP.out.hi.ownlt b (by simpa using hb)); have hvg : w2.heap.size ∉ (Value.slice Ah x.history.length Ch).ownBlock.toList := (fun hm => by have := (hvo _ hm).2; omega); have hvb : w.heap.size + 1 ∉ (Value.slice Ah x.history.length Ch).ownBlock.toList := (fun hm => by have := (hvo _ hm).1; omega); have s5 : w4.heap.size ≤ w5.heap.size := (by have := t5.size; simpa using this); have s5a : w.heap.size + 1 < w5.heap.size := (by omega); have s5b : w2.heap.size < w5.heap.size := (by omega); have B5 := Blk.only (Blk.set HB4.out 3 (.slice A (appW x.puzzle x.state l).length C)) t5 hvg; have c50 := B5.cell 0 rfl; have c51 := B5.cell 1 rfl; have c52 := B5.cell 2 rfl; have c53 := B5.cell 3 rfl; have c54 := B5.cell 4 rfl; have c55 := B5.cell 5 rfl; have z5 := B5.frozen; clear B5; have y5' := t5.cells_eq (w.heap.size + 1) (by simp; omega) hvb; have z5' := t5.frozen_eq (w.heap.size + 1) (by simp; omega) hvb; have Hvo := Lib.hid hvo; clear hvo hvg hvb)
    | fail "no arm")
  have hP := HP.out
  have G4 : ∀ b ∈ g4, w2.heap.size + 1 ≤ b := fun b hb => by have := F4.ge b hb; omega
  have Gm : ∀ b ∈ gm, b < w2.heap.size := fun b hb => hP.fr.left.lt b hb
  have K24 : Only [] w2 (w4.setCell ⟨w2.heap.size, 3, none⟩ (.slice A (appW x.puzzle x.state l).length C)) := (by with_reducible repeat (first | exact Only.refl _ _ | assumption | refine Only.drewN ?_ _ | refine Only.drew ?_ | refine Only.alloc ?_ _ | refine Only.setCell ?_ (by intro hh; exfalso; simp at hh; try omega) _ | refine Only.trans ?_ (by assumption)))
  have T4 : Only [] w (w4.setCell ⟨w2.heap.size, 3, none⟩ (.slice A (appW x.puzzle x.state l).length C)) := (by with_reducible repeat (first | exact Only.refl _ _ | assumption | refine Only.drewN ?_ _ | refine Only.drew ?_ | refine Only.alloc ?_ _ | refine Only.setCell ?_ (by intro hh; exfalso; simp at hh; try omega) _ | refine Only.trans ?_ (by assumption)))
  have T5 : Only [] w w5 := T4.then_ t5 (fun b hb hl => by have := (Hvo.out b hb).1; omega)
  have F4' := F4.only (w' := (w4.setCell ⟨w2.heap.size, 3, none⟩ (.slice A (appW x.puzzle x.state l).length C))) (fp' := [w2.heap.size]) (by with_reducible repeat (first | exact Only.refl _ _ | assumption | refine Only.drewN ?_ _ | refine Only.drew ?_ | refine Only.alloc ?_ _ | refine Only.setCell ?_ (by intro _; simp) _ | refine Only.trans ?_ (Only.weaken (by assumption) _))) (fun b hb hm => by have := G4 b hb; simp at hm; omega)
  have r4' := Rp.only (w' := (w4.setCell ⟨w2.heap.size, 3, none⟩ (.slice A (appW x.puzzle x.state l).length C))) (fp' := [w2.heap.size]) r4 (by with_reducible repeat (first | exact Only.refl _ _ | assumption | refine Only.drewN ?_ _ | refine Only.drew ?_ | refine Only.alloc ?_ _ | refine Only.setCell ?_ (by intro _; simp) _ | refine Only.trans ?_ (Only.weaken (by assumption) _))) (fun b hb hm => by have := G4 b hb; simp at hm; omega)
  have F6 := hP.fr.repl K24 (by simp) (F4'.mono (by have := t2.size; omega)) (fun b hb => .inr (by have := G4 b hb; omega))
  have dH : ∀ b ∈ gm, b ∉ (Value.slice Ah x.history.length Ch).ownBlock.toList := fun b hb hm => (nd_app hP.fr.nd).2.2.1 b hb (List.mem_append_right _ (List.mem_append_left _ (List.mem_append_left _ hm)))
  have F7 := Fresh.repl (pre := gm ++ g4) (by rw [List.append_assoc]; exact F6) t5 (fun b hb => List.mem_append_left _ hb) F5 hs5
  have F8 := F7.sublist (((List.Sublist.refl (gm ++ g4)).append ((List.Sublist.refl g5).append (List.nil_sublist _))))
  have hW4 : (w4.setCell ⟨w2.heap.size, 3, none⟩ (.slice A (appW x.puzzle x.state l).length C)).heap.size = w4.heap.size := by simp
  have d8 : ∀ b ∈ gm ++ g4 ++ (g5 ++ []), b ∉ [w2.heap.size, w.heap.size + 1] := fun b hb hm => by
    have h6 := F8.ge b hb
    have h7 : b = w2.heap.size := by
      simp at hm
      rcases hm with h | h <;> omega
    rcases List.mem_append.1 hb with h8 | h8
    · rcases List.mem_append.1 h8 with h9 | h9
      · have := Gm b h9; omega
      · have := G4 b h9; omega
    · rcases hs5 b (by simpa using h8) with h9 | h9
      · have := hP.fr.right.right.left.lt b h9; omega
      · omega
  rw [List.append_assoc] at F8 d8
  have e1 : ∀ b ∈ gm, b ∉ [w2.heap.size, w.heap.size + 1] := fun b hb => d8 b (List.mem_append_left _ hb)
  have e2 : ∀ b ∈ g4, b ∉ [w2.heap.size, w.heap.size + 1] := fun b hb => d8 b (List.mem_append_right _ (List.mem_append_left _ hb))
  have e3 : ∀ b ∈ g5, b ∉ [w2.heap.size, w.heap.size + 1] := fun b hb => d8 b (List.mem_append_right _ (List.mem_append_right _ (List.mem_append_left _ hb)))
  refine bodyPost_ret (v := .tuple #[.agg #[.int .i64 x.puzzle.points, .string x.puzzle.names, .slice Am x.puzzle.moves.length Cm, .slice A (appW x.puzzle x.state l).length C, .slice A5' (pushW x.history l).length C5', .slice none 0 0], .bool true]) (by simp [results, Try.results34, go_sem, y5', y4', y3', y2', y1', s2b]) rfl ⟨[.int .i64 x.puzzle.points, .string x.puzzle.names, .slice Am x.puzzle.moves.length Cm, .slice A (appW x.puzzle x.state l).length C, .slice A5' (pushW x.history l).length C5', .slice none 0 0], gm ++ (g4 ++ (g5 ++ [])), rfl,
    ⟨[.int .i64 x.puzzle.points, .string x.puzzle.names, .slice Am x.puzzle.moves.length Cm], _, _, _, gm, g4, g5, [], rfl, rfl, ⟨_, rfl, p0, p1, Rp.only (fp' := [w2.heap.size, w.heap.size + 1]) (Rp.only (Rp.keep hP.mv K24) t5 dH) (by with_reducible repeat (first | exact Only.refl _ _ | assumption | refine Only.drewN ?_ _ | refine Only.drew ?_ | refine Only.alloc ?_ _ | refine Only.setCell ?_ (by intro _; simp) _ | refine Only.trans ?_ (Only.weaken (by assumption) _))) e1⟩, Rp.only (fp' := [w2.heap.size, w.heap.size + 1]) (Rp.only r4' t5 (fun b hb hm => by have := G4 b hb; have := (Hvo.out b hm).2; omega)) (by with_reducible repeat (first | exact Only.refl _ _ | assumption | refine Only.drewN ?_ _ | refine Only.drew ?_ | refine Only.alloc ?_ _ | refine Only.setCell ?_ (by intro _; simp) _ | refine Only.trans ?_ (Only.weaken (by assumption) _))) e2, Rp.only (fp' := [w2.heap.size, w.heap.size + 1]) r5 (by with_reducible repeat (first | exact Only.refl _ _ | assumption | refine Only.drewN ?_ _ | refine Only.drew ?_ | refine Only.alloc ?_ _ | refine Only.setCell ?_ (by intro _; simp) _ | refine Only.trans ?_ (Only.weaken (by assumption) _))) e3, nil_rd _⟩, ?_, ?_⟩
  · exact (F8.only (fp' := [w2.heap.size, w.heap.size + 1]) (by with_reducible repeat (first | exact Only.refl _ _ | assumption | refine Only.drewN ?_ _ | refine Only.drew ?_ | refine Only.alloc ?_ _ | refine Only.setCell ?_ (by intro _; simp) _ | refine Only.trans ?_ (Only.weaken (by assumption) _))) d8).mono (by omega)
  · exact (by with_reducible repeat (first | exact Only.refl _ _ | assumption | refine Only.drewN ?_ _ | refine Only.drew ?_ | refine Only.alloc ?_ _ | refine Only.setCell ?_ (by intro hh; exfalso; simp at hh; try omega) _ | refine Only.trans ?_ (by assumption)))
noncomputable def playRes (x : Session) (l : List Int) : Session := if validSe x = true then (if validW x.puzzle.moves.length l = true then playW x l else x) else noSess
noncomputable def playOk (x : Session) (l : List Int) : Bool := validSe x && validW x.puzzle.moves.length l
theorem playRes_no {x : Session} {l : List Int} (h : validSe x = false) : playRes x l = noSess ∧ playOk x l = false := ⟨by unfold playRes; rw [if_neg (by simp [h])], by unfold playOk; rw [h]; rfl⟩
theorem playRes_bad {x : Session} {l : List Int} (h : validSe x = true) (h2 : validW x.puzzle.moves.length l = false) : playRes x l = x ∧ playOk x l = false := ⟨by unfold playRes; rw [if_pos h, if_neg (by simp [h2])], by unfold playOk; rw [h, h2]; rfl⟩
theorem playRes_yes {x : Session} {l : List Int} (h : validSe x = true) (h2 : validW x.puzzle.moves.length l = true) : playRes x l = playW x l ∧ playOk x l = true := ⟨by unfold playRes; rw [if_pos h, if_pos h2], by unfold playOk; rw [h, h2]; rfl⟩
theorem specPlayWord_any (cs : List Value) (x : Session) (fp : List Nat) (vl : Value) (l : List Int) (fl : List Nat) (w : World) (h : Rp.rep w cs x fp) (hl : Rd w vl l fl) :
    Calls Try.prog 32 #[.agg cs.toArray, vl] w fun e w' => ∃ cs' fp', e = .returned (.tuple #[.agg cs'.toArray, .bool (playOk x l)]) ∧ Rp.rep w' cs' (playRes x l) fp' ∧ Fresh w.heap.size w' fp' ∧ Only [] w w' := by
  rcases hq : validSe x
  · rw [(playRes_no (l := l) hq).1, (playRes_no (l := l) hq).2]; exact specPlayWord_no cs x fp vl l fl w h hl hq
  rcases hw : validW x.puzzle.moves.length l
  · rw [(playRes_bad hq hw).1, (playRes_bad hq hw).2]; exact specPlayWord_bad cs x fp vl l fl w h hl hq hw
  · rw [(playRes_yes hq hw).1, (playRes_yes hq hw).2]; exact specPlayWord_yes cs x fp vl l fl w h hl hq hw
theorem implPlayWord_any (cs : List Value) (x : Session) (fp : List Nat) (vl : Value) (l : List Int) (fl : List Nat) (w : World) (h : Rp.rep w cs x fp) (hl : Rd w vl l fl) :
    Calls Try.prog 34 #[.agg cs.toArray, vl] w fun e w' => ∃ cs' fp', e = .returned (.tuple #[.agg cs'.toArray, .bool (playOk x l)]) ∧ Rp.rep w' cs' (playRes x l) fp' ∧ Fresh w.heap.size w' fp' ∧ Only [] w w' := by
  rcases hq : validSe x
  · rw [(playRes_no (l := l) hq).1, (playRes_no (l := l) hq).2]; exact implPlayWord_no cs x fp vl l fl w h hl hq
  rcases hw : validW x.puzzle.moves.length l
  · rw [(playRes_bad hq hw).1, (playRes_bad hq hw).2]; exact implPlayWord_bad cs x fp vl l fl w h hl hq hw
  · rw [(playRes_yes hq hw).1, (playRes_yes hq hw).2]; exact implPlayWord_yes cs x fp vl l fl w h hl hq hw
end Go.Proofs.Ytpfmkjcngknecaa
