/- Copies of sessions: the reference's and the program's; what they are made of. (Printed by mkseops2.py.) -/
import Derived.Test.YtpfmkjcngknecaaSeOps
namespace Go.Proofs.Ytpfmkjcngknecaa
open Go.RowKit
set_option maxRecDepth 10000

/-- a session of the call's own, in parts -/
structure SeP (eI : TypeId) (B : Nat) (w : World) (x : Session) (vm vs vh vf : Value) (fm fs : List Nat) (hs us : List (List Nat)) : Prop where
  nm : I64 x.puzzle.points ∧ x.puzzle.names.size ≤ maxLen
  mv : Rd w vm x.puzzle.moves fm
  st : Rd w vs x.state fs
  hi : Acc B eI w vh x.history hs
  fu : Acc B eI w vf x.future us
  fr : Fresh B w (fm ++ (fs ++ ((vh.ownBlock.toList ++ hs.flatten) ++ (vf.ownBlock.toList ++ us.flatten))))
section
variable {eI : TypeId} {B : Nat} {w w' : World} {x : Session} {vm vs vh vf : Value} {fm fs : List Nat} {hs us : List (List Nat)}
theorem SeP.only (h : SeP eI B w x vm vs vh vf fm fs hs us) {fp : List Nat} (ho : Only fp w w') (hd : ∀ b ∈ fp, b < B ∨ w.heap.size ≤ b) : SeP eI B w' x vm vs vh vf fm fs hs us := by
  have key : ∀ b ∈ fm ++ (fs ++ ((vh.ownBlock.toList ++ hs.flatten) ++ (vf.ownBlock.toList ++ us.flatten))), b ∉ fp := fun b hb hm => by
    have h1 := h.fr.ge b hb
    have h2 := h.fr.lt b hb
    rcases hd b hm with h3 | h3 <;> omega
  have k1 : ∀ b ∈ fm, b ∉ fp := fun b hb => key b (List.mem_append_left _ hb)
  have k2 : ∀ b ∈ fs, b ∉ fp := fun b hb => key b (List.mem_append_right _ (List.mem_append_left _ hb))
  have k3 : ∀ b ∈ vh.ownBlock.toList ++ hs.flatten, b ∉ fp := fun b hb => key b (List.mem_append_right _ (List.mem_append_right _ (List.mem_append_left _ hb)))
  have k4 : ∀ b ∈ vf.ownBlock.toList ++ us.flatten, b ∉ fp := fun b hb => key b (List.mem_append_right _ (List.mem_append_right _ (List.mem_append_right _ hb)))
  exact ⟨h.nm, Rp.only h.mv ho k1, Rp.only h.st ho k2, h.hi.only ho (fun b hb => k3 b (List.mem_append_right _ hb)) (fun g hg => k3 g (List.mem_append_left _ (by simp [hg]))), h.fu.only ho (fun b hb => k4 b (List.mem_append_right _ hb)) (fun g hg => k4 g (List.mem_append_left _ (by simp [hg]))), h.fr.only ho key⟩
theorem Acc.mono {α : Type} [Rp α] {B B' : Nat} {e : TypeId} {w : World} {v : Value} {l : List α} {fs : List (List Nat)} (h : Acc B e w v l fs) (hB : B' ≤ B) : Acc B' e w v l fs := by
  obtain ⟨css, ho, hr⟩ := h.own
  refine ⟨⟨css, ⟨ho.1, ?_⟩, hr⟩, h.fl, h.apart⟩
  rcases ho.2 with h1 | ⟨g, cp, cur, h1, h2, h3⟩
  · exact .inl h1
  · exact .inr ⟨g, cp, cur, h1, Nat.le_trans hB h2, h3⟩
theorem SeP.mono (h : SeP eI B w x vm vs vh vf fm fs hs us) {B' : Nat} (hB : B' ≤ B) : SeP eI B' w x vm vs vh vf fm fs hs us :=
  ⟨h.nm, h.mv, h.st, h.hi.mono hB, h.fu.mono hB, h.fr.mono hB⟩
/-- parts made one behind the other -/
theorem SeP.made {w1 w2 w3 w4 : World} (nm : I64 x.puzzle.points ∧ x.puzzle.names.size ≤ maxLen) {B1 : Nat} (r1 : Rd w1 vm x.puzzle.moves fm) (F1 : Fresh B1 w1 fm) (r2 : Rd w2 vs x.state fs) (F2 : Fresh w1.heap.size w2 fs) (r3 : Acc w2.heap.size eI w3 vh x.history hs) (F3 : Fresh w2.heap.size w3 hs.flatten)
    (r4 : Acc w3.heap.size eI w4 vf x.future us) (F4 : Fresh w3.heap.size w4 us.flatten) (t2 : Only [] w1 w2) (t3 : Only [] w2 w3) (t4 : Only [] w3 w4) (hB : B ≤ B1) (hB1 : B1 ≤ w1.heap.size) : SeP eI B w4 x vm vs vh vf fm fs hs us := by
  have s2 := t2.size
  have s3 := t3.size
  have s4 := t4.size
  refine ⟨nm, Rp.keep (Rp.keep (Rp.keep r1 t2) t3) t4, Rp.keep (Rp.keep r2 t3) t4, (r3.keep t4).mono (by omega), r4.mono (by omega), ?_⟩
  have f4 := r4.fresh F4
  have f3 := (r3.fresh F3)
  have f34 := Fresh.append (f3.keep t4) f4 s3 fun b hb => f3.lt b hb
  have f234 := Fresh.append ((F2.keep t3).keep t4) f34 s2 fun b hb => F2.lt b hb
  exact (Fresh.append (((F1.keep t2).keep t3).keep t4) f234 hB1 fun b hb => F1.lt b hb).mono hB
theorem SeP.keep (h : SeP eI B w x vm vs vh vf fm fs hs us) (ho : Only [] w w') : SeP eI B w' x vm vs vh vf fm fs hs us := h.only ho (by simp)
theorem SeP.rep (h : SeP eI B w x vm vs vh vf fm fs hs us) : Rp.rep w [.int .i64 x.puzzle.points, .string x.puzzle.names, vm, vs, vh, vf] x (fm ++ (fs ++ ((vh.ownBlock.toList ++ hs.flatten) ++ (vf.ownBlock.toList ++ us.flatten)))) :=
  ⟨[.int .i64 x.puzzle.points, .string x.puzzle.names, vm], vs, vh, vf, fm, fs, _, _, rfl, rfl, ⟨vm, rfl, h.nm.1, h.nm.2, h.mv⟩, h.st, h.hi.rd (by decide), h.fu.rd (by decide)⟩
end
/-- what a copy leaves -/
def CopyP (eI : TypeId) (w : World) (x : Session) (e : Ending) (w' : World) : Prop :=
  ∃ Am Cm As Cs Ah Ch Af Cf fm fs hs us, e = .returned (.agg #[.int .i64 x.puzzle.points, .string x.puzzle.names, .slice Am x.puzzle.moves.length Cm, .slice As x.state.length Cs, .slice Ah x.history.length Ch, .slice Af x.future.length Cf]) ∧
    SeP eI w.heap.size w' x (.slice Am x.puzzle.moves.length Cm) (.slice As x.state.length Cs) (.slice Ah x.history.length Ch) (.slice Af x.future.length Cf) fm fs hs us ∧ Only [] w w'
theorem validSe_facts {x : Session} (h : validSe x = true) : stateB x.puzzle x.state = true ∧ x.puzzle.moves.length ≤ 8 ∧ (∀ y ∈ x.puzzle.moves, y.length ≤ 2097152) ∧ x.state.length ≤ 20 ∧ x.history.length ≤ 40 ∧ (∀ y ∈ x.history, y.length ≤ 2097152) ∧ x.future.length ≤ 40 ∧ (∀ y ∈ x.future, y.length ≤ 2097152) := by
  unfold validSe at h
  rw [Bool.and_eq_true, Bool.and_eq_true] at h
  obtain ⟨h1, h2, h3⟩ := h
  have hs := reachB_state h1
  obtain ⟨a, b, c, d⟩ := stateB_pn hs
  obtain ⟨l1, l2⟩ := wordsB_len h2
  obtain ⟨l3, l4⟩ := wordsB_len h3
  refine ⟨hs, b, fun y hy => ?_, ?_, l1, fun y hy => ?_, l3, fun y hy => ?_⟩
  · have := (c y hy).1; omega
  · have := d.1; omega
  · have := validW_len (l2 y hy); omega
  · have := validW_len (l4 y hy); omega
set_option maxHeartbeats 4000000 in
theorem copySession_any (cs : List Value) (x : Session) (fp : List Nat) (w : World) (h : Rp.rep w cs x fp) (hv : validSe x = true) :
    Calls Try.prog 64 #[.agg cs.toArray] w (CopyP 25 w x) := by
  obtain ⟨c0, v1, v2, v3, f0, f1, f2, f3, rfl, rfl, k0, k1, k2, k3⟩ := h
  have q0 := k0
  obtain ⟨u2, rfl, p0, p1, h2⟩ := q0
  obtain ⟨A2, C2, _, _, rfl, -, -⟩ := h2.open_
  obtain ⟨A3, C3, _, _, rfl, -, -⟩ := k1.open_
  obtain ⟨A4, C4, ob4, fp4, rfl, -, S4⟩ := k2.open_
  obtain ⟨A5, C5, ob5, fp5, rfl, -, S5⟩ := k3.open_
  obtain ⟨-, m1, m2, m3, m4, m5, m6, m7⟩ := validSe_facts hv
  have Hm2 := Lib.hid m2
  have Hm5 := Lib.hid m5
  have Hm7 := Lib.hid m7
  have HS4 := Lib.hid S4
  have HS5 := Lib.hid S5
  clear m2 m5 m7 hv S4 S5
  have hW0 : Only [] w ((w.alloc (.cells #[.int .i64 x.puzzle.points, .string x.puzzle.names, .slice A2 x.puzzle.moves.length C2, .slice A3 x.state.length C3, .slice A4 x.history.length C4, .slice A5 x.future.length C5] 32)).alloc (.cells #[.int .i64 0, .string ⟨#[]⟩, .slice none 0 0, .slice none 0 0, .slice none 0 0, .slice none 0 0] 32)) := ((Only.refl _ _).alloc _).alloc _
  have hB : Blk ((w.alloc (.cells #[.int .i64 x.puzzle.points, .string x.puzzle.names, .slice A2 x.puzzle.moves.length C2, .slice A3 x.state.length C3, .slice A4 x.history.length C4, .slice A5 x.future.length C5] 32)).alloc (.cells #[.int .i64 0, .string ⟨#[]⟩, .slice none 0 0, .slice none 0 0, .slice none 0 0, .slice none 0 0] 32)) w.heap.size [.int .i64 x.puzzle.points, .string x.puzzle.names, .slice A2 x.puzzle.moves.length C2, .slice A3 x.state.length C3, .slice A4 x.history.length C4, .slice A5 x.future.length C5] := Blk.keep (Blk.new_at rfl) ((Only.refl _ _).alloc _)
  have HB := Lib.hid hB; clear hB
  go_enter Try.func64, Try.ntmps64
  go_wp2
  go_region_held3 (fun w' => Only [w.heap.size + 1] ((w.alloc (.cells #[.int .i64 x.puzzle.points, .string x.puzzle.names, .slice A2 x.puzzle.moves.length C2, .slice A3 x.state.length C3, .slice A4 x.history.length C4, .slice A5 x.future.length C5] 32)).alloc (.cells #[.int .i64 0, .string ⟨#[]⟩, .slice none 0 0, .slice none 0 0, .slice none 0 0, .slice none 0 0] 32)) w' ∧ w'.cell? ⟨w.heap.size, 0, none⟩ = some (Value.int .i64 x.puzzle.points) ∧ w'.cell? ⟨w.heap.size, 1, none⟩ = some (.string x.puzzle.names) ∧ w'.cell? ⟨w.heap.size, 2, none⟩ = some (.slice A2 x.puzzle.moves.length C2) ∧ w'.cell? ⟨w.heap.size, 3, none⟩ = some (.slice A3 x.state.length C3) ∧ w'.cell? ⟨w.heap.size, 4, none⟩ = some (.slice A4 x.history.length C4) ∧ w'.cell? ⟨w.heap.size, 5, none⟩ = some (.slice A5 x.future.length C5)) ((refine and_of ?_ (fun h__ => ⟨(Blk.only HB.out h__ (by simp)).cell 0 rfl, (Blk.only HB.out h__ (by simp)).cell 1 rfl, (Blk.only HB.out h__ (by simp)).cell 2 rfl, (Blk.only HB.out h__ (by simp)).cell 3 rfl, (Blk.only HB.out h__ (by simp)).cell 4 rfl, (Blk.only HB.out h__ (by simp)).cell 5 rfl⟩); first | (with_reducible exact (Only.refl _ _).drew) | (with_reducible exact Only.keepThen (And.left (by assumption)) (by assumption)) | (with_reducible exact Only.setCell (Only.setCell (Only.setCell (Only.setCell (Only.setCell (Only.setCell (And.left (by assumption)) (by intro _; simp) _) (by intro _; simp) _) (by intro _; simp) _) (by intro _; simp) _) (by intro _; simp) _) (by intro _; simp) _))) (first
    | (go_at_call 99; (with_reducible refine (copyPuzzle_any [.int .i64 x.puzzle.points, .string x.puzzle.names, .slice A2 x.puzzle.moves.length C2] x.puzzle _ _ (Rp.keep k0 (Only.own1 hW0 (And.left (by assumption)) (Nat.le_succ _))) (by omega) Hm2.out).mono ?_); rintro en w1 ⟨u1, g1, rfl, r1, F1, t1⟩; obtain ⟨uu, rfl, -, -, R1⟩ := r1; obtain ⟨A6, C6, _, _, rfl, -⟩ := R1.open_; have y1 := t1.cells_eq (w.heap.size + 1) (by simp) (by simp); have z1 := t1.frozen_eq (w.heap.size + 1) (by simp) (by simp); have s1 : w.heap.size + 1 < w1.heap.size := (by have := t1.size; simp at this; omega))
    | (go_at_call 95; (with_reducible refine (copyInts_rd _ x.state _ _ (Rp.keep k1 (Only.own1 hW0 (And.left (by assumption)) (Nat.le_succ _))) (by omega)).mono ?_); rintro en w2 ⟨v6, g2, rfl, r2, F2, t2⟩; obtain ⟨A7, C7, _, _, rfl, -⟩ := r2.open_; have y2 := t2.cells_eq (w.heap.size + 1) s1 (by simp); have z2 := t2.frozen_eq (w.heap.size + 1) s1 (by simp); have s2 : w.heap.size + 1 < w2.heap.size := Nat.lt_of_lt_of_le s1 t2.size)
    | (go_at_call 96; (with_reducible refine (copyLists_acc A4 C4 x.history ob4 fp4 _ (HS4.out.frame (Rd.frm (Only.own1 hW0 (And.left (by assumption)) (Nat.le_succ _)) HS4.out)) (by omega) Hm5.out).mono ?_); rintro en w3 ⟨v7, g3, rfl, r3, F3, t3⟩; obtain ⟨A8, C8, rfl⟩ := r3.form; have y3 := t3.cells_eq (w.heap.size + 1) s2 (by simp); have z3 := t3.frozen_eq (w.heap.size + 1) s2 (by simp); have s3 : w.heap.size + 1 < w3.heap.size := Nat.lt_of_lt_of_le s2 t3.size)
    | (go_at_call 96; (with_reducible refine (copyLists_acc A5 C5 x.future ob5 fp5 _ (HS5.out.frame (Rd.frm (Only.own1 hW0 (And.left (by assumption)) (Nat.le_succ _)) HS5.out)) (by omega) Hm7.out).mono ?_); rintro en w4 ⟨v8, g4, rfl, r4, F4, t4⟩; obtain ⟨A9, C9, rfl⟩ := r4.form; have y4 := t4.cells_eq (w.heap.size + 1) s3 (by simp); have z4 := t4.frozen_eq (w.heap.size + 1) s3 (by simp); have s4 : w.heap.size + 1 < w4.heap.size := Nat.lt_of_lt_of_le s3 t4.size)
    | fail "no arm")
  go_wp2
  have hW : Only [w.heap.size + 1] w4 ((((((w4.setCell ⟨w.heap.size + 1, 0, none⟩ (Value.int .i64 x.puzzle.points)).setCell ⟨w.heap.size + 1, 1, none⟩ (.string x.puzzle.names)).setCell ⟨w.heap.size + 1, 2, none⟩ (.slice A6 x.puzzle.moves.length C6)).setCell ⟨w.heap.size + 1, 3, none⟩ (.slice A7 x.state.length C7)).setCell ⟨w.heap.size + 1, 4, none⟩ (.slice A8 x.history.length C8)).setCell ⟨w.heap.size + 1, 5, none⟩ (.slice A9 x.future.length C9)) := by with_reducible exact Only.setCell (Only.setCell (Only.setCell (Only.setCell (Only.setCell (Only.setCell (Only.refl [w.heap.size + 1] w4) (by intro _; simp) _) (by intro _; simp) _) (by intro _; simp) _) (by intro _; simp) _) (by intro _; simp) _) (by intro _; simp) _
  have hP := (SeP.made (B := w.heap.size + 2) ⟨p0, p1⟩ R1 F1 r2 F2 r3 F3 r4 F4 t2 t3 t4 (by simp) (by have := t1.size; simpa using this)).only hW (fun b hb => by simp at hb; omega)
  refine bodyPost_ret (v := .agg #[Value.int .i64 x.puzzle.points, .string x.puzzle.names, .slice A6 x.puzzle.moves.length C6, .slice A7 x.state.length C7, .slice A8 x.history.length C8, .slice A9 x.future.length C9]) (by simp [results, Try.results64, go_sem, y4, y3, y2, y1]) rfl ⟨A6, C6, A7, C7, A8, C8, A9, C9, g1, g2, g3, g4, rfl, hP.mono (by omega), ?_⟩
  exact Only.own1 (hW0.trans ((Only.refl _ _).drew.trans (t1.trans (t2.trans (t3.trans t4))))) hW (Nat.le_succ _)
set_option maxHeartbeats 4000000 in
theorem cloneSession_any (cs : List Value) (x : Session) (fp : List Nat) (w : World) (h : Rp.rep w cs x fp) (hv : validSe x = true) :
    Calls Try.prog 68 #[.agg cs.toArray] w (CopyP 25 w x) := by
  obtain ⟨c0, v1, v2, v3, f0, f1, f2, f3, rfl, rfl, k0, k1, k2, k3⟩ := h
  have q0 := k0
  obtain ⟨u2, rfl, p0, p1, h2⟩ := q0
  obtain ⟨A2, C2, _, _, rfl, -, -⟩ := h2.open_
  obtain ⟨A3, C3, _, _, rfl, -, -⟩ := k1.open_
  obtain ⟨A4, C4, ob4, fp4, rfl, -, S4⟩ := k2.open_
  obtain ⟨A5, C5, ob5, fp5, rfl, -, S5⟩ := k3.open_
  obtain ⟨-, m1, m2, m3, m4, m5, m6, m7⟩ := validSe_facts hv
  have Hm2 := Lib.hid m2
  have Hm5 := Lib.hid m5
  have Hm7 := Lib.hid m7
  have HS4 := Lib.hid S4
  have HS5 := Lib.hid S5
  clear m2 m5 m7 hv S4 S5
  have hW0 : Only [] w ((w.alloc (.cells #[.int .i64 x.puzzle.points, .string x.puzzle.names, .slice A2 x.puzzle.moves.length C2, .slice A3 x.state.length C3, .slice A4 x.history.length C4, .slice A5 x.future.length C5] 32)).alloc (.cells #[.int .i64 0, .string ⟨#[]⟩, .slice none 0 0, .slice none 0 0, .slice none 0 0, .slice none 0 0] 32)) := ((Only.refl _ _).alloc _).alloc _
  have hB : Blk ((w.alloc (.cells #[.int .i64 x.puzzle.points, .string x.puzzle.names, .slice A2 x.puzzle.moves.length C2, .slice A3 x.state.length C3, .slice A4 x.history.length C4, .slice A5 x.future.length C5] 32)).alloc (.cells #[.int .i64 0, .string ⟨#[]⟩, .slice none 0 0, .slice none 0 0, .slice none 0 0, .slice none 0 0] 32)) w.heap.size [.int .i64 x.puzzle.points, .string x.puzzle.names, .slice A2 x.puzzle.moves.length C2, .slice A3 x.state.length C3, .slice A4 x.history.length C4, .slice A5 x.future.length C5] := Blk.keep (Blk.new_at rfl) ((Only.refl _ _).alloc _)
  have HB := Lib.hid hB; clear hB
  go_enter Try.func68, Try.ntmps68
  go_wp2
  go_region_held3 (fun w' => Only [w.heap.size + 1] ((w.alloc (.cells #[.int .i64 x.puzzle.points, .string x.puzzle.names, .slice A2 x.puzzle.moves.length C2, .slice A3 x.state.length C3, .slice A4 x.history.length C4, .slice A5 x.future.length C5] 32)).alloc (.cells #[.int .i64 0, .string ⟨#[]⟩, .slice none 0 0, .slice none 0 0, .slice none 0 0, .slice none 0 0] 32)) w' ∧ w'.cell? ⟨w.heap.size, 0, none⟩ = some (Value.int .i64 x.puzzle.points) ∧ w'.cell? ⟨w.heap.size, 1, none⟩ = some (.string x.puzzle.names) ∧ w'.cell? ⟨w.heap.size, 2, none⟩ = some (.slice A2 x.puzzle.moves.length C2) ∧ w'.cell? ⟨w.heap.size, 3, none⟩ = some (.slice A3 x.state.length C3) ∧ w'.cell? ⟨w.heap.size, 4, none⟩ = some (.slice A4 x.history.length C4) ∧ w'.cell? ⟨w.heap.size, 5, none⟩ = some (.slice A5 x.future.length C5)) ((refine and_of ?_ (fun h__ => ⟨(Blk.only HB.out h__ (by simp)).cell 0 rfl, (Blk.only HB.out h__ (by simp)).cell 1 rfl, (Blk.only HB.out h__ (by simp)).cell 2 rfl, (Blk.only HB.out h__ (by simp)).cell 3 rfl, (Blk.only HB.out h__ (by simp)).cell 4 rfl, (Blk.only HB.out h__ (by simp)).cell 5 rfl⟩); first | (with_reducible exact (Only.refl _ _).drew) | (with_reducible exact Only.keepThen (And.left (by assumption)) (by assumption)) | (with_reducible exact Only.setCell (Only.setCell (Only.setCell (Only.setCell (Only.setCell (Only.setCell (And.left (by assumption)) (by intro _; simp) _) (by intro _; simp) _) (by intro _; simp) _) (by intro _; simp) _) (by intro _; simp) _) (by intro _; simp) _))) (first
    | (go_at_call 102; (with_reducible refine (clonePuzzle_any [.int .i64 x.puzzle.points, .string x.puzzle.names, .slice A2 x.puzzle.moves.length C2] x.puzzle _ _ (Rp.keep k0 (Only.own1 hW0 (And.left (by assumption)) (Nat.le_succ _))) (by omega) Hm2.out).mono ?_); rintro en w1 ⟨u1, g1, rfl, r1, F1, t1⟩; obtain ⟨uu, rfl, -, -, R1⟩ := r1; obtain ⟨A6, C6, _, _, rfl, -⟩ := R1.open_; have y1 := t1.cells_eq (w.heap.size + 1) (by simp) (by simp); have z1 := t1.frozen_eq (w.heap.size + 1) (by simp) (by simp); have s1 : w.heap.size + 1 < w1.heap.size := (by have := t1.size; simp at this; omega))
    | (go_at_call 98; (with_reducible refine (Clone_rd _ x.state _ _ (Rp.keep k1 (Only.own1 hW0 (And.left (by assumption)) (Nat.le_succ _))) (by omega)).mono ?_); rintro en w2 ⟨v6, g2, rfl, r2, F2, t2⟩; obtain ⟨A7, C7, _, _, rfl, -⟩ := r2.open_; have y2 := t2.cells_eq (w.heap.size + 1) s1 (by simp); have z2 := t2.frozen_eq (w.heap.size + 1) s1 (by simp); have s2 : w.heap.size + 1 < w2.heap.size := Nat.lt_of_lt_of_le s1 t2.size)
    | (go_at_call 74; (with_reducible refine (cloneLists_acc A4 C4 x.history ob4 fp4 _ (HS4.out.frame (Rd.frm (Only.own1 hW0 (And.left (by assumption)) (Nat.le_succ _)) HS4.out)) (by omega) Hm5.out).mono ?_); rintro en w3 ⟨v7, g3, rfl, r3, F3, t3⟩; obtain ⟨A8, C8, rfl⟩ := r3.form; have y3 := t3.cells_eq (w.heap.size + 1) s2 (by simp); have z3 := t3.frozen_eq (w.heap.size + 1) s2 (by simp); have s3 : w.heap.size + 1 < w3.heap.size := Nat.lt_of_lt_of_le s2 t3.size)
    | (go_at_call 74; (with_reducible refine (cloneLists_acc A5 C5 x.future ob5 fp5 _ (HS5.out.frame (Rd.frm (Only.own1 hW0 (And.left (by assumption)) (Nat.le_succ _)) HS5.out)) (by omega) Hm7.out).mono ?_); rintro en w4 ⟨v8, g4, rfl, r4, F4, t4⟩; obtain ⟨A9, C9, rfl⟩ := r4.form; have y4 := t4.cells_eq (w.heap.size + 1) s3 (by simp); have z4 := t4.frozen_eq (w.heap.size + 1) s3 (by simp); have s4 : w.heap.size + 1 < w4.heap.size := Nat.lt_of_lt_of_le s3 t4.size)
    | fail "no arm")
  go_wp2
  have hW : Only [w.heap.size + 1] w4 ((((((w4.setCell ⟨w.heap.size + 1, 0, none⟩ (Value.int .i64 x.puzzle.points)).setCell ⟨w.heap.size + 1, 1, none⟩ (.string x.puzzle.names)).setCell ⟨w.heap.size + 1, 2, none⟩ (.slice A6 x.puzzle.moves.length C6)).setCell ⟨w.heap.size + 1, 3, none⟩ (.slice A7 x.state.length C7)).setCell ⟨w.heap.size + 1, 4, none⟩ (.slice A8 x.history.length C8)).setCell ⟨w.heap.size + 1, 5, none⟩ (.slice A9 x.future.length C9)) := by with_reducible exact Only.setCell (Only.setCell (Only.setCell (Only.setCell (Only.setCell (Only.setCell (Only.refl [w.heap.size + 1] w4) (by intro _; simp) _) (by intro _; simp) _) (by intro _; simp) _) (by intro _; simp) _) (by intro _; simp) _) (by intro _; simp) _
  have hP := (SeP.made (B := w.heap.size + 2) ⟨p0, p1⟩ R1 F1 r2 F2 r3 F3 r4 F4 t2 t3 t4 (by simp) (by have := t1.size; simpa using this)).only hW (fun b hb => by simp at hb; omega)
  refine bodyPost_ret (v := .agg #[Value.int .i64 x.puzzle.points, .string x.puzzle.names, .slice A6 x.puzzle.moves.length C6, .slice A7 x.state.length C7, .slice A8 x.history.length C8, .slice A9 x.future.length C9]) (by simp [results, Try.results68, go_sem, y4, y3, y2, y1]) rfl ⟨A6, C6, A7, C7, A8, C8, A9, C9, g1, g2, g3, g4, rfl, hP.mono (by omega), ?_⟩
  exact Only.own1 (hW0.trans ((Only.refl _ _).drew.trans (t1.trans (t2.trans (t3.trans t4))))) hW (Nat.le_succ _)
end Go.Proofs.Ytpfmkjcngknecaa
