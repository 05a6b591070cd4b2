/- The reference's drawSession (laws 50, 55). Bounds only. (Printed by mksesd.py.) What the laws on sessions draw: DrawPlayWord, DrawScrambleSession (laws 50, 55). Bounds only. (Printed by mksese.py.) -/
import Derived.Test.YtajkhdbdkjhilaaGreatRowScrambledSessionsG19
namespace Go.Proofs.YtajkhdbdkjhilaaGreat
open Go.RowKit
set_option maxRecDepth 10000

/-- what drawSession leaves -/
def DSR (w : World) (g : Nat) (fc : List Nat) (l : List UInt8) (e : Ending) (w' : World) : Prop :=
  ∃ (x : Session) (A2 A3 A4 A5 : Option Addr) (C2 C3 C4 C5 : Nat) (fp : List Nat), e = .returned (.agg #[.int .i64 x.puzzle.points, .string x.puzzle.names, .slice A2 x.puzzle.moves.length C2, .slice A3 x.state.length C3, .slice A4 x.history.length C4, .slice A5 x.future.length C5]) ∧ Rp.rep w' [.int .i64 x.puzzle.points, .string x.puzzle.names, .slice A2 x.puzzle.moves.length C2, .slice A3 x.state.length C3, .slice A4 x.history.length C4, .slice A5 x.future.length C5] x fp ∧ (∀ b ∈ fp, w.heap.size ≤ b) ∧ x.puzzle.moves.length ≤ 1000 ∧ Src w' g fc l ∧ Only [g] w w'
/-- the drawn session, at rest in block sb -/
def DSF (w : World) (g : Nat) (fc : List Nat) (l : List UInt8) (sb : Nat) (wx : World) : Prop :=
  ∃ (x : Session) (A2 A3 A4 A5 : Option Addr) (C2 C3 C4 C5 : Nat) (fp : List Nat), Blk wx sb [.int .i64 x.puzzle.points, .string x.puzzle.names, .slice A2 x.puzzle.moves.length C2, .slice A3 x.state.length C3, .slice A4 x.history.length C4, .slice A5 x.future.length C5] ∧ Rp.rep wx [.int .i64 x.puzzle.points, .string x.puzzle.names, .slice A2 x.puzzle.moves.length C2, .slice A3 x.state.length C3, .slice A4 x.history.length C4, .slice A5 x.future.length C5] x fp ∧ (∀ b ∈ fp, w.heap.size + 1 ≤ b) ∧ x.puzzle.moves.length ≤ 1000 ∧ Blk wx w.heap.size [.int .i64 0, .string ⟨#[]⟩, .slice none 0 0, .slice none 0 0, .slice none 0 0, .slice none 0 0] ∧ Src wx g fc l ∧ Only [g] w wx
theorem se_rep {w : World} {x : Session} {vm vs vh vf : Value} {fm fs fh ff : List Nat} (nm : I64 x.puzzle.points ∧ x.puzzle.names.size ≤ maxLen) (r1 : Rd w vm x.puzzle.moves fm) (r2 : Rd w vs x.state fs) (r3 : Rd w vh x.history fh) (r4 : Rd w vf x.future ff) : Rp.rep w [.int .i64 x.puzzle.points, .string x.puzzle.names, vm, vs, vh, vf] x (fm ++ (fs ++ (fh ++ ff))) :=
  ⟨[.int .i64 x.puzzle.points, .string x.puzzle.names, vm], vs, vh, vf, fm, fs, fh, ff, rfl, rfl, ⟨vm, rfl, nm.1, nm.2, r1⟩, r2, r3, r4⟩
/-- the parts of a session under way, at a later world -/
structure SePt (eI : TypeId) (base sb : Nat) (wx : World) (x : Session) (vm vs vh vf : Value) (fm fs : List Nat) (hs us : List (List Nat)) : Prop where
  nm : I64 x.puzzle.points ∧ x.puzzle.names.size ≤ maxLen
  mv : Rd wx vm x.puzzle.moves fm
  st : Rd wx vs x.state fs
  hi : Acc base eI wx vh x.history hs
  fu : Acc base eI wx vf x.future us
  hF : Fresh base wx hs.flatten
  uF : Fresh base wx us.flatten
  ge : ∀ b ∈ fm ++ (fs ++ ((vh.ownBlock.toList ++ hs.flatten) ++ (vf.ownBlock.toList ++ us.flatten))), base ≤ b ∧ b ≠ sb
  pts : (∀ z ∈ fm, z ∉ (vh.ownBlock.toList ++ hs.flatten) ∧ z ∉ (vf.ownBlock.toList ++ us.flatten)) ∧ (∀ z ∈ fs, z ∉ (vh.ownBlock.toList ++ hs.flatten) ∧ z ∉ (vf.ownBlock.toList ++ us.flatten)) ∧ (∀ z ∈ (vh.ownBlock.toList ++ hs.flatten), z ∉ (vf.ownBlock.toList ++ us.flatten))
  vhu : ∀ b ∈ fm ++ (fs ++ ((vh.ownBlock.toList ++ hs.flatten) ++ (vf.ownBlock.toList ++ us.flatten))), b < wx.heap.size
theorem SePt.of {eI : TypeId} {base sb : Nat} {wx : World} {x : Session} {vm vs vh vf : Value} {fm fs : List Nat} {hs us : List (List Nat)} (h : SeP eI base wx x vm vs vh vf fm fs hs us) (hn : ∀ b ∈ fm ++ (fs ++ ((vh.ownBlock.toList ++ hs.flatten) ++ (vf.ownBlock.toList ++ us.flatten))), b ≠ sb) : SePt eI base sb wx x vm vs vh vf fm fs hs us :=
  ⟨h.nm, h.mv, h.st, h.hi, h.fu, h.fr.right.right.left.right, h.fr.right.right.right.right, fun b hb => ⟨h.fr.ge b hb, hn b hb⟩, h.fr.parts, h.fr.lt⟩
theorem SePt.only {eI : TypeId} {base sb : Nat} {wx w' : World} {x : Session} {vm vs vh vf : Value} {fm fs : List Nat} {hs us : List (List Nat)} {fp : List Nat} (h : SePt eI base sb wx x vm vs vh vf fm fs hs us) (ho : Only fp wx w') (hd : ∀ b ∈ fp, b < base ∨ b = sb) : SePt eI base sb w' x vm vs vh vf fm fs hs us := by
  have key : ∀ b ∈ fm ++ (fs ++ ((vh.ownBlock.toList ++ hs.flatten) ++ (vf.ownBlock.toList ++ us.flatten))), b ∉ fp := fun b hb hm => by
    obtain ⟨h1, h2⟩ := h.ge b hb
    rcases hd b hm with h3 | h3
    · omega
    · exact h2 h3
  have k1 : ∀ b ∈ fm, b ∉ fp := fun b hb => key b (List.mem_append_left _ hb)
  have k2 : ∀ b ∈ fs, b ∉ fp := fun b hb => key b (List.mem_append_right _ (List.mem_append_left _ hb))
  have k3 : ∀ b ∈ vh.ownBlock.toList ++ hs.flatten, b ∉ fp := fun b hb => key b (List.mem_append_right _ (List.mem_append_right _ (List.mem_append_left _ hb)))
  have k4 : ∀ b ∈ vf.ownBlock.toList ++ us.flatten, b ∉ fp := fun b hb => key b (List.mem_append_right _ (List.mem_append_right _ (List.mem_append_right _ hb)))
  exact ⟨h.nm, Rp.only h.mv ho k1, Rp.only h.st ho k2, h.hi.only ho (fun b hb => k3 b (List.mem_append_right _ hb)) (fun g hg => k3 g (List.mem_append_left _ (by simp [hg]))), h.fu.only ho (fun b hb => k4 b (List.mem_append_right _ hb)) (fun g hg => k4 g (List.mem_append_left _ (by simp [hg]))), h.hF.only ho (fun b hb => k3 b (List.mem_append_right _ hb)), h.uF.only ho (fun b hb => k4 b (List.mem_append_right _ hb)), h.ge, h.pts, fun b hb => Nat.lt_of_lt_of_le (h.vhu b hb) ho.size⟩
theorem SePt.rep {eI : TypeId} {base sb : Nat} {wx : World} {x : Session} {vm vs vh vf : Value} {fm fs : List Nat} {hs us : List (List Nat)} (h : SePt eI base sb wx x vm vs vh vf fm fs hs us) : Rp.rep wx [.int .i64 x.puzzle.points, .string x.puzzle.names, vm, vs, vh, vf] x (fm ++ (fs ++ ((vh.ownBlock.toList ++ hs.flatten) ++ (vf.ownBlock.toList ++ us.flatten)))) :=
  se_rep h.nm h.mv h.st (h.hi.rd (by decide)) (h.fu.rd (by decide))
/-- a list of words that grows, beside the other parts of a session -/
structure HS (eI : TypeId) (base sb : Nat) (wx : World) (v1 v2 v3 : Value) (m : List (List Int)) (s : List Int) (q : List (List Int)) (f1 f2 f3 : List Nat) (A : Option Addr) (C : Nat) (H : List (List Int)) (hs : List (List Nat)) : Prop where
  r1 : Rd wx v1 m f1
  r2 : Rd wx v2 s f2
  r3 : Rd wx v3 q f3
  hi : Acc base eI wx (.slice A H.length C) H hs
  ge : ∀ b ∈ f1 ++ (f2 ++ f3), (base ≤ b ∧ b ≠ sb) ∧ (Value.slice A H.length C).ownBlock ≠ some b
  hge : ∀ b ∈ (Value.slice A H.length C).ownBlock.toList ++ hs.flatten, base ≤ b ∧ b ≠ sb
section
variable {eI : TypeId} {base sb : Nat} {wx w' V w9 : World} {v1 v2 v3 : Value} {m : List (List Int)} {s : List Int} {q : List (List Int)} {f1 f2 f3 : List Nat} {A a9 : Option Addr} {C c9 : Nat} {H : List (List Int)} {hs : List (List Nat)} {p : List Int} {f : List Nat}
theorem HS.only (h : HS eI base sb wx v1 v2 v3 m s q f1 f2 f3 A C H hs) {fp : List Nat} (ho : Only fp wx w') (hd : ∀ b ∈ fp, b < base ∨ b = sb) : HS eI base sb w' v1 v2 v3 m s q f1 f2 f3 A C H hs := by
  have key : ∀ b, base ≤ b ∧ b ≠ sb → b ∉ fp := fun b h1 hm => by rcases hd b hm with h3 | h3 <;> omega
  exact ⟨Rp.only h.r1 ho fun b hb => key b (h.ge b (List.mem_append_left _ hb)).1, Rp.only h.r2 ho fun b hb => key b (h.ge b (List.mem_append_right _ (List.mem_append_left _ hb))).1, Rp.only h.r3 ho fun b hb => key b (h.ge b (List.mem_append_right _ (List.mem_append_right _ hb))).1,
    h.hi.only ho (fun b hb => key b (h.hge b (List.mem_append_right _ hb))) (fun b hb => key b (h.hge b (List.mem_append_left _ (by simp [hb])))), h.ge, h.hge⟩
theorem HS.keep (h : HS eI base sb wx v1 v2 v3 m s q f1 f2 f3 A C H hs) (ho : Only [] wx w') : HS eI base sb w' v1 v2 v3 m s q f1 f2 f3 A C H hs := h.only ho (by simp)
theorem HS.sb_own (h : HS eI base sb wx v1 v2 v3 m s q f1 f2 f3 A C H hs) : sb ∉ (Value.slice A H.length C).ownBlock.toList := fun hm => (h.hge sb (List.mem_append_left _ hm)).2 rfl
theorem HS.own_ge (h : HS eI base sb wx v1 v2 v3 m s q f1 f2 f3 A C H hs) : ∀ b ∈ (Value.slice A H.length C).ownBlock.toList, base ≤ b := fun b hm => (h.hge b (List.mem_append_left _ hm)).1
theorem HS.push (h : HS eI base sb V v1 v2 v3 m s q f1 f2 f3 A C H hs) (hA : Acc base eI w9 (.slice a9 (H.length + 1) c9) (H ++ [p]) (hs ++ [f])) (hO : Only (Value.slice A H.length C).ownBlock.toList V w9)
    (hN : (Value.slice a9 (H.length + 1) c9).ownBlock = (Value.slice A H.length C).ownBlock ∨ (Value.slice a9 (H.length + 1) c9).ownBlock = some V.heap.size) (hf : ∀ b ∈ f, base ≤ b ∧ b ≠ sb) (hsb : sb < V.heap.size) (hb : base ≤ V.heap.size) :
    HS eI base sb w9 v1 v2 v3 m s q f1 f2 f3 a9 c9 (H ++ [p]) (hs ++ [f]) := by
  have hl : (H ++ [p]).length = H.length + 1 := by simp
  have hd : ∀ b ∈ f1 ++ (f2 ++ f3), b ∉ (Value.slice A H.length C).ownBlock.toList := fun b hm h2 => (h.ge b hm).2 (by simpa using h2)
  have hlt : ∀ b ∈ f1 ++ (f2 ++ f3), b < V.heap.size := fun b hm => by
    rcases List.mem_append.1 hm with hm | hm
    · exact Rp.lt h.r1 b hm
    · rcases List.mem_append.1 hm with hm | hm
      · exact Rp.lt h.r2 b hm
      · exact Rp.lt h.r3 b hm
  refine ⟨Rp.only h.r1 hO fun b hb => hd b (List.mem_append_left _ hb), Rp.only h.r2 hO fun b hb => hd b (List.mem_append_right _ (List.mem_append_left _ hb)), Rp.only h.r3 hO fun b hb => hd b (List.mem_append_right _ (List.mem_append_right _ hb)), by rw [hl]; exact hA, fun b hm => ⟨(h.ge b hm).1, ?_⟩, fun b hm => ?_⟩
  · rw [hl]
    exact own_after hN (h.ge b hm).2 (hlt b hm)
  · rw [hl] at hm
    rcases List.mem_append.1 hm with hm | hm
    · have hm2 : (Value.slice a9 (H.length + 1) c9).ownBlock = some b := by simpa using hm
      rcases hN with e | e
      · exact h.hge b (List.mem_append_left _ (by rw [← e]; simp [hm2]))
      · rw [e] at hm2
        injection hm2 with hm2
        omega
    · rw [List.flatten_append] at hm
      rcases List.mem_append.1 hm with hm | hm
      · exact h.hge b (List.mem_append_right _ hm)
      · exact hf b (by simpa using hm)
end
theorem SePt.hist {eI : TypeId} {base sb : Nat} {wx : World} {x : Session} {vm vs vf : Value} {A : Option Addr} {C : Nat} {fm fs : List Nat} {hs us : List (List Nat)} (h : SePt eI base sb wx x vm vs (.slice A x.history.length C) vf fm fs hs us) : HS eI base sb wx vm vs vf x.puzzle.moves x.state x.future fm fs (vf.ownBlock.toList ++ us.flatten) A C x.history hs :=
  ⟨h.mv, h.st, h.fu.rd (by decide), h.hi, fun b hb => by
    obtain ⟨p1, p2, p3⟩ := h.pts
    rcases List.mem_append.1 hb with hb | hb
    · exact ⟨h.ge b (List.mem_append_left _ hb), fun e => (p1 b hb).1 (List.mem_append_left _ (by simp [e]))⟩
    · rcases List.mem_append.1 hb with hb | hb
      · exact ⟨h.ge b (List.mem_append_right _ (List.mem_append_left _ hb)), fun e => (p2 b hb).1 (List.mem_append_left _ (by simp [e]))⟩
      · exact ⟨h.ge b (List.mem_append_right _ (List.mem_append_right _ (List.mem_append_right _ hb))), fun e => p3 b (List.mem_append_left _ (by simp [e])) hb⟩,
    fun b hb => h.ge b (List.mem_append_right _ (List.mem_append_right _ (List.mem_append_left _ hb)))⟩
theorem SePt.fut {eI : TypeId} {base sb : Nat} {wx : World} {x : Session} {vm vs vh : Value} {A : Option Addr} {C : Nat} {fm fs : List Nat} {hs us : List (List Nat)} (h : SePt eI base sb wx x vm vs vh (.slice A x.future.length C) fm fs hs us) : HS eI base sb wx vm vs vh x.puzzle.moves x.state x.history fm fs (vh.ownBlock.toList ++ hs.flatten) A C x.future us :=
  ⟨h.mv, h.st, h.hi.rd (by decide), h.fu, fun b hb => by
    obtain ⟨p1, p2, p3⟩ := h.pts
    rcases List.mem_append.1 hb with hb | hb
    · exact ⟨h.ge b (List.mem_append_left _ hb), fun e => (p1 b hb).2 (List.mem_append_left _ (by simp [e]))⟩
    · rcases List.mem_append.1 hb with hb | hb
      · exact ⟨h.ge b (List.mem_append_right _ (List.mem_append_left _ hb)), fun e => (p2 b hb).2 (List.mem_append_left _ (by simp [e]))⟩
      · exact ⟨h.ge b (List.mem_append_right _ (List.mem_append_right _ (List.mem_append_left _ hb))), fun e => p3 b hb (List.mem_append_left _ (by simp [e]))⟩,
    fun b hb => h.ge b (List.mem_append_right _ (List.mem_append_right _ (List.mem_append_right _ hb)))⟩
set_option maxHeartbeats 16000000 in
theorem drawSession_any (g : Nat) (fc : List Nat) (l : List UInt8) (w : World) (h : Src w g fc l) (hl : l.length ≤ 4096) :
    Calls Tryz.prog 24 #[.pointer (some ⟨g, 0, none⟩)] w (DSR w g fc l) := by
  obtain ⟨i0, hi, hz0, hz1, hz2⟩ := info_parts Tryz.info22
  have hg := h.lt
  have hfc : ∀ b ∈ fc, b < w.heap.size := by obtain ⟨_, _, _, _, _, _, _, h4, _⟩ := h; exact fun b hb => Rp.lt h4 b hb
  have hB0 := Blk.new w [.int .i64 0, .string ⟨#[]⟩, .slice none 0 0, .slice none 0 0, .slice none 0 0, .slice none 0 0] 29
  have ho : Only [] w (w.alloc (.cells #[.int .i64 0, .string ⟨#[]⟩, .slice none 0 0, .slice none 0 0, .slice none 0 0, .slice none 0 0] 29)) := (Only.refl _ _).alloc _
  have Hsz0 : Hid ((w.alloc (.cells #[.int .i64 0, .string ⟨#[]⟩, .slice none 0 0, .slice none 0 0, .slice none 0 0, .slice none 0 0] 29)).heap.size = w.heap.size + 1) := Lib.hid (by simp)
  go_enter Tryz.func24, Tryz.ntmps24
  go_upto_region 3 with (first
    | (go_at_call 61; (with_reducible refine (drawPuzzle_any g fc l _ (h.keep ho) hl).mono ?_); rintro e w1 ⟨n, nm, vm, rfl, hP, D1, K1⟩; obtain ⟨gs, fs, cA, cF, ⟨n0, n20⟩, nml, gsl, gs30⟩ := hP; obtain ⟨am, cm, rfl⟩ := cA.form; have hRp : Rp.rep w1 [.int .i64 n, .string nm, .slice am gs.length cm] (⟨n, nm, gs⟩ : Puzzle) _ := PzR.rep (by unfold I64; omega) (by omega) (cA.rd (by decide)); have k1 : Only [g] w w1 := (ho.weaken [g]).trans K1; have s1 : w.heap.size + 1 ≤ w1.heap.size := (by have := K1.size; rw [Hsz0.out] at this; exact this); have B1 := hB0.only K1 (by simp; omega); have HRp := Lib.hid hRp; clear hRp cA cF gs30)
    | (go_at_call 60; (with_reducible refine (new_step [.int .i64 n, .string nm, .slice am gs.length cm] ⟨n, nm, gs⟩ _ w1 HRp.out).mono ?_); rintro e w2 ⟨x', A2', A3', A4', A5', C2', C3', C4', C5', b', fm', fs', hs', us', rfl, hP', hk', t2⟩; have B2 := (B1.keep t2).keep ((Only.refl _ _).alloc (.cells #[.int .i64 x'.puzzle.points, .string x'.puzzle.names, .slice A2' x'.puzzle.moves.length C2', .slice A3' x'.state.length C3', .slice A4' x'.history.length C4', .slice A5' x'.future.length C5'] 29)); have Sb := Blk.new w2 [.int .i64 x'.puzzle.points, .string x'.puzzle.names, .slice A2' x'.puzzle.moves.length C2', .slice A3' x'.state.length C3', .slice A4' x'.history.length C4', .slice A5' x'.future.length C5'] 29; have HP' := Lib.hid hP'; clear hP'; have c0a := Sb.cell 0 rfl; have c1a := Sb.cell 1 rfl; have c2a := Sb.cell 2 rfl; have c3a := Sb.cell 3 rfl; have c4a := Sb.cell 4 rfl; have c5a := Sb.cell 5 rfl; have za := Sb.frozen)
    | fail "no arm")
  have hDS0 : DSe 27 (w.heap.size + 1) w2.heap.size 0 (w2.alloc (.cells #[.int .i64 x'.puzzle.points, .string x'.puzzle.names, .slice A2' x'.puzzle.moves.length C2', .slice A3' x'.state.length C3', .slice A4' x'.history.length C4', .slice A5' x'.future.length C5'] 29)) := by
    have kal : Only [] w2 (w2.alloc (.cells #[.int .i64 x'.puzzle.points, .string x'.puzzle.names, .slice A2' x'.puzzle.moves.length C2', .slice A3' x'.state.length C3', .slice A4' x'.history.length C4', .slice A5' x'.future.length C5'] 29)) := (Only.refl _ _).alloc _
    exact ⟨x', A2', A3', A4', A5', C2', C3', C4', C5', fm', fs', hs', us', Sb, (HP'.out.keep kal).mono s1, fun b hm e => by have := HP'.out.fr.lt b hm; omega, hk'⟩
  have hml := hk'.2.2.2.2
  have D2 := (D1.keep t2).keep ((Only.refl _ _).alloc (.cells #[.int .i64 x'.puzzle.points, .string x'.puzzle.names, .slice A2' x'.puzzle.moves.length C2', .slice A3' x'.state.length C3', .slice A4' x'.history.length C4', .slice A5' x'.future.length C5'] 29))
  have k2 : Only [g] w (w2.alloc (.cells #[.int .i64 x'.puzzle.points, .string x'.puzzle.names, .slice A2' x'.puzzle.moves.length C2', .slice A3' x'.state.length C3', .slice A4' x'.history.length C4', .slice A5' x'.future.length C5'] 29)) := (k1.trans (t2.weaken _)).alloc _
  have hs12 := t2.size
  obtain ⟨W3, hW3⟩ : ∃ W, W = w2.alloc (.cells #[.int .i64 x'.puzzle.points, .string x'.puzzle.names, .slice A2' x'.puzzle.moves.length C2', .slice A3' x'.state.length C3', .slice A4' x'.history.length C4', .slice A5' x'.future.length C5'] 29) := ⟨_, rfl⟩
  obtain ⟨sb, hsb⟩ : ∃ sb, sb = w2.heap.size := ⟨_, rfl⟩
  have hsb1 : w.heap.size + 1 ≤ sb := by omega
  have hsb2 : sb < W3.heap.size := by rw [hW3, hsb]; simp
  rw [← hW3] at B2 D2 k2 hDS0 ⊢
  rw [← hsb] at hDS0 ⊢
  obtain ⟨mn, hmn⟩ : ∃ mn, mn = x'.puzzle.moves.length := ⟨_, rfl⟩
  have hm8 : mn ≤ 8 := by omega
  obtain ⟨sx, hsx⟩ : ∃ sx, sx = x' := ⟨_, rfl⟩
  clear hW3 Sb HP' HRp B1 hB0 ho D1 K1 k1 s1 hs12 t2 hk' hml hsb
  rw [← hmn]
  clear hmn hsx
  go_wp2_with (first
    | (go_at_call 52; (with_reducible refine (srcBelow_any g fc l 7 W3 D2 hl (by omega)).mono ?_); rintro e w4 ⟨k, rfl, k0, k7, D4, K4⟩; have DS4 := hDS0.only K4 (by simp; omega) (by simp; omega); have B4 := B2.only K4 (by simp; omega))
    | fail "no arm")
  have hk6 : k ≤ 6 := by omega
  have DS4' : DSe 27 (w.heap.size + 1) sb (6 - k).toNat w4 := by
    obtain ⟨x, A2, A3, A4, A5, C2, C3, C4, C5, fm, fs, hs, us, hB, hP, hn, hs0⟩ := DS4
    exact ⟨x, A2, A3, A4, A5, C2, C3, C4, C5, fm, fs, hs, us, hB, hP, hn, hs0.mono (by omega)⟩
  have k4 := k2.trans K4
  have hsb4 : sb < w4.heap.size := Nat.lt_of_lt_of_le hsb2 K4.size
  clear hDS0 DS4 B2 D2 k2 K4 k7 hsb2
  go_loopw [6] (fun kv wr => ∃ k : Int, 0 ≤ k ∧ k ≤ 6 ∧ kv = .int .i64 k ∧ DSe 27 (w.heap.size + 1) sb (6 - k).toNat wr ∧ Blk wr w.heap.size [.int .i64 0, .string ⟨#[]⟩, .slice none 0 0, .slice none 0 0, .slice none 0 0, .slice none 0 0] ∧ Src wr g fc l ∧ Only [g] w wr ∧ sb < wr.heap.size)
    (fun kv _ => (intOf kv).toNat)
  case atStart => exact ⟨k, k0, hk6, rfl, DS4', B4, D4, k4, hsb4⟩
  case round =>
    obtain ⟨W5, hnew⟩ : ∃ W, W = wr := ⟨_, rfl⟩
    subst hnew
    clear DS4' B4 D4 k4 hsb4 k0 hk6
    obtain ⟨k, k0, k6, rfl, hDS, B5, D5, k5, hsb5⟩ := hrel
    by_cases hgo : 0 < k
    · have hw : IntKind.i64.wrap (k - 1) = k - 1 := by rw [IntKind.wrap_i64]; omega
      have hkk : (6 - k).toNat + 1 = (6 - (k - 1)).toNat := by omega
      have hk38 : (6 - k).toNat ≤ 38 := by omega
      obtain ⟨kn, hkn⟩ : ∃ kn, kn = (6 - k).toNat := ⟨_, rfl⟩
      rw [← hkn] at hDS hkk hk38
      have Hkk := Lib.hid hkk
      clear hkk hkn
      go_upto_region 8 with (first
        | (go_at_call 52; (with_reducible refine (srcBelow_any g fc l 6 W5 D5 hl (by omega)).mono ?_); rintro e w6 ⟨r, rfl, r0, r1, D6, K6⟩; have DS6 := hDS.only K6 (by simp; omega) (by simp; omega); have B6 := B5.only K6 (by simp; omega); have k6' := k5.trans K6)
        | fail "no arm")
      have hsb6 : sb < w6.heap.size := Nat.lt_of_lt_of_le hsb5 K6.size
      have hs6 : w.heap.size + 1 ≤ w6.heap.size := by omega
      obtain ⟨x, A2, A3, A4, A5, C2, C3, C4, C5, fm, fs, hs, us, Sb, hP, hn, hk⟩ := DS6
      have hRp := hP.rep
      have HR := Lib.hid hRp
      have Hk := Lib.hid hk
      have Hml : x.puzzle.moves.length ≤ 8 := hk.2.2.2.2
      have Hge := Lib.hid (show ∀ b ∈ fm ++ (fs ++ (((Value.slice A4 x.history.length C4).ownBlock.toList ++ hs.flatten) ++ ((Value.slice A5 x.future.length C5).ownBlock.toList ++ us.flatten))), b ∉ [g] from fun b hb hm => by have := hP.fr.ge b hb; simp at hm; omega)
      have HP := Lib.hid hP
      have Hnn := Lib.hid hn
      clear hRp hP hk hDS B5 D5 hsb5 K6 hn
      have c0b := Sb.cell 0 rfl
      have c1b := Sb.cell 1 rfl
      have c2b := Sb.cell 2 rfl
      have c3b := Sb.cell 3 rfl
      have c4b := Sb.cell 4 rfl
      have c5b := Sb.cell 5 rfl
      have zb := Sb.frozen
      by_cases e0 : r = 0
      · subst e0
        go_wp2_with (first
          | (go_at_call 62; (with_reducible refine (undo_step [.int .i64 x.puzzle.points, .string x.puzzle.names, .slice A2 x.puzzle.moves.length C2, .slice A3 x.state.length C3, .slice A4 x.history.length C4, .slice A5 x.future.length C5] x _ kn w6 HR.out Hk.out hk38).mono ?_); rintro e w7 ⟨x', A2', A3', A4', A5', C2', C3', C4', C5', b', fm', fs', hs', us', rfl, hP', hk', t7⟩; have S7 := Sb.keep t7; have HP' := Lib.hid hP'; clear hP'; have c07 := S7.cell 0 rfl; have c17 := S7.cell 1 rfl; have c27 := S7.cell 2 rfl; have c37 := S7.cell 3 rfl; have c47 := S7.cell 4 rfl; have c57 := S7.cell 5 rfl; have z7 := S7.frozen)
          | fail "no arm")
        have kst := only_set6 w7 sb (.int .i64 x'.puzzle.points) (.string x'.puzzle.names) (.slice A2' x'.puzzle.moves.length C2') (.slice A3' x'.state.length C3') (.slice A4' x'.history.length C4') (.slice A5' x'.future.length C5')
        have hlt : sb < w7.heap.size := Nat.lt_of_lt_of_le hsb6 t7.size
        exact ⟨⟨k - 1, by omega, by omega, rfl, by rw [← Hkk.out]; exact DSe.store S7 HP'.out hk' hs6 hsb6, (B6.keep t7).only kst (by simp; omega), (D6.keep t7).only kst (by simp; omega) (fun b hb hm => by have := hfc b hb; simp at hm; omega), (k6'.trans (t7.weaken _)).then_ kst (fun b hb hl => by simp at hb; omega), Nat.lt_of_lt_of_le hlt kst.size⟩, by simp [intOf]; omega⟩
      · by_cases e1 : r = 1
        · subst e1
          go_wp2_with (first
            | (go_at_call 63; (with_reducible refine (redo_step [.int .i64 x.puzzle.points, .string x.puzzle.names, .slice A2 x.puzzle.moves.length C2, .slice A3 x.state.length C3, .slice A4 x.history.length C4, .slice A5 x.future.length C5] x _ kn w6 HR.out Hk.out hk38).mono ?_); rintro e w7 ⟨x', A2', A3', A4', A5', C2', C3', C4', C5', b', fm', fs', hs', us', rfl, hP', hk', t7⟩; have S7 := Sb.keep t7; have HP' := Lib.hid hP'; clear hP'; have c07 := S7.cell 0 rfl; have c17 := S7.cell 1 rfl; have c27 := S7.cell 2 rfl; have c37 := S7.cell 3 rfl; have c47 := S7.cell 4 rfl; have c57 := S7.cell 5 rfl; have z7 := S7.frozen)
            | fail "no arm")
          have kst := only_set6 w7 sb (.int .i64 x'.puzzle.points) (.string x'.puzzle.names) (.slice A2' x'.puzzle.moves.length C2') (.slice A3' x'.state.length C3') (.slice A4' x'.history.length C4') (.slice A5' x'.future.length C5')
          have hlt : sb < w7.heap.size := Nat.lt_of_lt_of_le hsb6 t7.size
          exact ⟨⟨k - 1, by omega, by omega, rfl, by rw [← Hkk.out]; exact DSe.store S7 HP'.out hk' hs6 hsb6, (B6.keep t7).only kst (by simp; omega), (D6.keep t7).only kst (by simp; omega) (fun b hb hm => by have := hfc b hb; simp at hm; omega), (k6'.trans (t7.weaken _)).then_ kst (fun b hb hl => by simp at hb; omega), Nat.lt_of_lt_of_le hlt kst.size⟩, by simp [intOf]; omega⟩
        · by_cases e2 : r = 2
          · subst e2
            go_upto_region 13 with fail
            go_wp2_with (first
              | (go_at_call 25; (with_reducible refine (oneIn_any g fc l 3 w6 D6 hl (by omega)).mono ?_); rintro e w7 ⟨b7, rfl, D7, K7⟩; have B7 := B6.only K7 (by simp; omega); have S7 := Sb.only K7 (by simp; omega); have c07 := S7.cell 0 rfl; have c17 := S7.cell 1 rfl; have c27 := S7.cell 2 rfl; have c37 := S7.cell 3 rfl; have c47 := S7.cell 4 rfl; have c57 := S7.cell 5 rfl; have z7 := S7.frozen; have K67 : Only [g] w6 w7 := K7; have HR7 := Rp.only HR.out K7 Hge.out; have HP7 := HP.out.only K7 (fun b hb => by simp at hb; omega))
              | fail "no arm")
            · go_region_law (first
                | (go_simp; go_at_call 52; (with_reducible refine (srcBelow_any g fc l 100 _ (D7.keep (by with_reducible repeat (first | exact Only.refl _ _ | assumption | refine Only.drewN ?_ _ | refine Only.drew ?_ | refine Only.alloc ?_ _ | refine Only.trans ?_ (by assumption)))) hl (by omega)).mono ?_); rintro en w8 ⟨y, rfl, y0, y1, D8, K8⟩; have K78 : Only [g] w7 w8 := Only.trans (by with_reducible repeat (first | exact Only.refl _ _ | assumption | refine Only.drewN ?_ _ | refine Only.drew ?_ | refine Only.alloc ?_ _ | refine Only.trans ?_ (by assumption))) K8; have S8 := S7.only K78 (by simp; omega); have c08 := S8.cell 0 rfl; have c18 := S8.cell 1 rfl; have c28 := S8.cell 2 rfl; have c38 := S8.cell 3 rfl; have c48 := S8.cell 4 rfl; have c58 := S8.cell 5 rfl; have z8 := S8.frozen; have HR8 := Rp.only HR7 K78 Hge.out; have hyI : I64 y := (by unfold I64; omega))
                | (go_simp; go_at_call 64; (with_reducible refine (scramble_step [.int .i64 x.puzzle.points, .string x.puzzle.names, .slice A2 x.puzzle.moves.length C2, .slice A3 x.state.length C3, .slice A4 x.history.length C4, .slice A5 x.future.length C5] x _ y kn _ (Rp.keep HR8 (by with_reducible repeat (first | exact Only.refl _ _ | assumption | refine Only.drewN ?_ _ | refine Only.drew ?_ | refine Only.alloc ?_ _ | refine Only.trans ?_ (by assumption)))) hyI Hk.out).mono ?_); rintro en w9 ⟨x', A2', A3', A4', A5', C2', C3', C4', C5', b', fm', fs', hs', us', rfl, hP', hk', t9⟩; have S9 := (S8.keep (by with_reducible repeat (first | exact Only.refl _ _ | assumption | refine Only.drewN ?_ _ | refine Only.drew ?_ | refine Only.alloc ?_ _ | refine Only.trans ?_ (by assumption)))).keep t9; have HP' := Lib.hid hP'; clear hP'; have c09 := S9.cell 0 rfl; have c19 := S9.cell 1 rfl; have c29 := S9.cell 2 rfl; have c39 := S9.cell 3 rfl; have c49 := S9.cell 4 rfl; have c59 := S9.cell 5 rfl; have z9 := S9.frozen)
                | fail "no arm")
              all_goals
                go_wp2
                have kst := only_set6 w9 sb (.int .i64 x'.puzzle.points) (.string x'.puzzle.names) (.slice A2' x'.puzzle.moves.length C2') (.slice A3' x'.state.length C3') (.slice A4' x'.history.length C4') (.slice A5' x'.future.length C5')
                have hlt : sb < w9.heap.size := Nat.lt_of_lt_of_le (Nat.lt_of_lt_of_le hsb6 (K67.trans K78).size) t9.size
                exact ⟨⟨k - 1, by omega, by omega, rfl, by rw [← Hkk.out]; exact DSe.store S9 HP'.out hk' (Nat.le_trans hs6 (K67.trans K78).size) (Nat.lt_of_lt_of_le hsb6 (K67.trans K78).size), ((B7.only K78 (by simp; omega)).keep t9).only kst (by simp; omega), (D8.keep t9).only kst (by simp; omega) (fun b hb hm => by have := hfc b hb; simp at hm; omega), (((k6'.trans K67).trans K78).trans (t9.weaken _)).then_ kst (fun b hb hl => by simp at hb; omega), Nat.lt_of_lt_of_le hlt kst.size⟩, by simp [intOf]; omega⟩
            · exact ⟨⟨k - 1, by omega, by omega, rfl, by rw [← Hkk.out]; exact ⟨x, A2, A3, A4, A5, C2, C3, C4, C5, fm, fs, hs, us, S7, HP7, Hnn.out, Hk.out.mono (by omega)⟩, B7, D7, k6'.trans K67, Nat.lt_of_lt_of_le hsb6 K67.size⟩, by simp [intOf]; omega⟩
          · have _e : True := trivial
            go_upto_region 7 with fail
            go_region_law (first
              | (go_simp; go_at_call 27; (with_reducible refine (drawWord_any g fc l (mn : Int) _ (D6.keep (by with_reducible repeat (first | exact Only.refl _ _ | assumption | refine Only.drewN ?_ _ | refine Only.drew ?_ | refine Only.alloc ?_ _ | refine Only.trans ?_ (by assumption)))) hl (by omega)).mono ?_); rintro en w8 ⟨v8, p8, rfl, A8, p87, D8, K8⟩; obtain ⟨a8, c8, rfl⟩ := A8.form; have hR8w := A8.rd; have K68 : Only [g] w6 w8 := Only.trans (by with_reducible repeat (first | exact Only.refl _ _ | assumption | refine Only.drewN ?_ _ | refine Only.drew ?_ | refine Only.alloc ?_ _ | refine Only.trans ?_ (by assumption))) K8; have S8 := Sb.only K68 (by simp; omega); have c08 := S8.cell 0 rfl; have c18 := S8.cell 1 rfl; have c28 := S8.cell 2 rfl; have c38 := S8.cell 3 rfl; have c48 := S8.cell 4 rfl; have c58 := S8.cell 5 rfl; have z8 := S8.frozen; have HR8 := Rp.only HR.out K68 Hge.out)
              | (go_simp; go_at_call 8; (with_reducible refine (play_step [.int .i64 x.puzzle.points, .string x.puzzle.names, .slice A2 x.puzzle.moves.length C2, .slice A3 x.state.length C3, .slice A4 x.history.length C4, .slice A5 x.future.length C5] x _ (.slice a8 p8.length c8) p8 _ kn _ (Rp.keep HR8 (by with_reducible repeat (first | exact Only.refl _ _ | assumption | refine Only.drewN ?_ _ | refine Only.drew ?_ | refine Only.alloc ?_ _ | refine Only.trans ?_ (by assumption)))) (Rp.keep hR8w (by with_reducible repeat (first | exact Only.refl _ _ | assumption | refine Only.drewN ?_ _ | refine Only.drew ?_ | refine Only.alloc ?_ _ | refine Only.trans ?_ (by assumption)))) Hk.out hk38).mono ?_); rintro en w9 ⟨x', A2', A3', A4', A5', C2', C3', C4', C5', b', fm', fs', hs', us', rfl, hP', hk', t9⟩; have S9 := (S8.keep (by with_reducible repeat (first | exact Only.refl _ _ | assumption | refine Only.drewN ?_ _ | refine Only.drew ?_ | refine Only.alloc ?_ _ | refine Only.trans ?_ (by assumption)))).keep t9; have HP' := Lib.hid hP'; clear hP'; have c09 := S9.cell 0 rfl; have c19 := S9.cell 1 rfl; have c29 := S9.cell 2 rfl; have c39 := S9.cell 3 rfl; have c49 := S9.cell 4 rfl; have c59 := S9.cell 5 rfl; have z9 := S9.frozen)
              | fail "no arm")
            all_goals
              go_wp2
              have kst := only_set6 w9 sb (.int .i64 x'.puzzle.points) (.string x'.puzzle.names) (.slice A2' x'.puzzle.moves.length C2') (.slice A3' x'.state.length C3') (.slice A4' x'.history.length C4') (.slice A5' x'.future.length C5')
              have hlt : sb < w9.heap.size := Nat.lt_of_lt_of_le (Nat.lt_of_lt_of_le hsb6 K68.size) t9.size
              exact ⟨⟨k - 1, by omega, by omega, rfl, by rw [← Hkk.out]; exact DSe.store S9 HP'.out hk' (Nat.le_trans hs6 K68.size) (Nat.lt_of_lt_of_le hsb6 K68.size), ((B6.only K68 (by simp; omega)).keep t9).only kst (by simp; omega), (D8.keep t9).only kst (by simp; omega) (fun b hb hm => by have := hfc b hb; simp at hm; omega), ((k6'.trans K68).trans (t9.weaken _)).then_ kst (fun b hb hl => by simp at hb; omega), Nat.lt_of_lt_of_le hlt kst.size⟩, by simp [intOf]; omega⟩
    · have hk60 : (6 - k).toNat = 6 := by omega
      rw [hk60] at hDS
      clear hk60 k0 k6
      obtain ⟨x, A2, A3, A4, A5, C2, C3, C4, C5, fm, fs, hs, us, Sb, hP, hn, hk⟩ := hDS
      have hPt := SePt.of hP hn
      obtain ⟨hk1, hk2, hk3, hk4, hk5⟩ := hk
      clear hP hn
      go_upto_region 15 with fail
      go_cut [59] (fun s59 wx => ∃ b : Bool, s59 = .bool b ∧ Src wx g fc l ∧ Only [g] W5 wx)
      case first =>
        go_wp2_with ((go_at_call 25; (with_reducible refine (oneIn_any g fc l 15 W5 D5 hl (by omega)).mono ?_); rintro e w6 ⟨b, rfl, D6, K6⟩))
        go_meet
        exact ⟨_, rfl, D6, K6⟩
      case rest =>
        obtain ⟨W6, hnew⟩ : ∃ W, W = wc := ⟨_, rfl⟩
        subst hnew
        obtain ⟨b6, rfl, D6, K6⟩ := hcut
        have B6 := B5.only K6 (by simp; omega)
        have S6 := Sb.only K6 (by simp; omega)
        have k6' := k5.trans K6
        have hPt6 := hPt.only K6 (fun b hb => by simp at hb; omega)
        have hsb6 : sb < W6.heap.size := Nat.lt_of_lt_of_le hsb5 K6.size
        clear B5 Sb k5 hPt hsb5 D5 K6
        refine (show ∀ a w, Code.wp Tryz.prog _ _ a w → _ from by assumption) _ _ ?_
        go_cut [] (fun wx => DSF w g fc l sb wx)
        case first =>
          cases b6
          · go_wp2
            go_meet
            exact ⟨x, A2, A3, A4, A5, C2, C3, C4, C5, _, S6, hPt6.rep, fun b hb => (hPt6.ge b hb).1, by omega, B6, D6, k6'⟩
          · go_upto_region 17 with (first
              | (go_at_call 52; (with_reducible refine (srcBelow_any g fc l 5 W6 D6 hl (by omega)).mono ?_); rintro e w7 ⟨r, rfl, r0, r1, D7, K7⟩; have B7 := B6.only K7 (by simp; omega); have S7 := S6.only K7 (by simp; omega); have hPt7 := hPt6.only K7 (fun b hb => by simp at hb; omega); have c07 := S7.cell 0 rfl; have c17 := S7.cell 1 rfl; have c27 := S7.cell 2 rfl; have c37 := S7.cell 3 rfl; have c47 := S7.cell 4 rfl; have c57 := S7.cell 5 rfl; have z7 := S7.frozen; have k7' := k6'.trans K7; have hsb7 : sb < w7.heap.size := Nat.lt_of_lt_of_le hsb6 K7.size)
              | fail "no arm")
            clear B6 S6 k6' hPt6 hsb6 D6 K7
            have HPt := Lib.hid hPt7
            clear hPt7
            by_cases e0 : r = 0
            · subst e0
              go_wp2_with (first
                | (go_at_call 65; (with_reducible refine (drawAnyN_any g fc l x.puzzle.points w7 D7 hl ⟨hk3, hk4⟩).mono ?_); rintro e w8 ⟨v8, p8, f8, rfl, r8, F8, l8, D8, K8⟩; obtain ⟨a8, c8, rfl, -⟩ := Rd.ints r8; have S8 := S7.only K8 (by simp; omega); have B8 := B7.only K8 (by simp; omega); have c08 := S8.cell 0 rfl; have c18 := S8.cell 1 rfl; have c28 := S8.cell 2 rfl; have c38 := S8.cell 3 rfl; have c48 := S8.cell 4 rfl; have c58 := S8.cell 5 rfl; have z8 := S8.frozen)
                | fail "no arm")
              go_meet
              have kst : Only [sb] w8 (w8.setCell ⟨sb, 3, none⟩ (.slice a8 p8.length c8)) := (Only.refl _ _).setCell (by simp) _
              have hPt8 := (HPt.out.only K8 (fun b hb => by simp at hb; omega)).only kst (fun b hb => by simp at hb; omega)
              have r9 := Rp.only r8 kst (fun b hb hm => by have := F8.ge b hb; simp at hm; omega)
              exact ⟨⟨x.puzzle, p8, x.history, x.future⟩, A2, a8, A4, A5, C2, c8, C4, C5, _, S8.set 3 (.slice a8 p8.length c8), se_rep (x := ⟨x.puzzle, p8, x.history, x.future⟩) hPt8.nm hPt8.mv r9 (hPt8.hi.rd (by decide)) (hPt8.fu.rd (by decide)), fun b hb => by
                rcases List.mem_append.1 hb with hb | hb
                · exact (hPt8.ge b (List.mem_append_left _ hb)).1
                · rcases List.mem_append.1 hb with hb | hb
                  · have := F8.ge b hb; omega
                  · exact (hPt8.ge b (List.mem_append_right _ (List.mem_append_right _ hb))).1, by show x.puzzle.moves.length ≤ 1000; omega, B8.only kst (by simp; omega), D8.only kst (by simp; omega) (fun b hb hm => by have := hfc b hb; simp at hm; omega), (k7'.trans K8).then_ kst (fun b hb hl => by simp at hb; omega)⟩
            · by_cases e1 : r = 1
              · subst e1
                go_wp2
                have hH7 := HPt.out.hist
                have HH := Lib.hid hH7
                have hlen : x.history.length + 1 ≤ 1073741824 := by omega
                clear hH7
                go_region_law (first
                  | (go_simp; go_at_call 26; (with_reducible refine (drawAnyWord_any g fc l _ (D7.keep (by with_reducible repeat (first | exact Only.refl _ _ | assumption | refine Only.drewN ?_ _ | refine Only.drew ?_ | refine Only.alloc ?_ _ | refine Only.trans ?_ (by assumption)))) hl).mono ?_); rintro en w8 ⟨v8, p8, rfl, A8, p300, D8, K8⟩; obtain ⟨a8, c8, rfl⟩ := A8.form; have K78 : Only [g] w7 w8 := Only.trans (by with_reducible repeat (first | exact Only.refl _ _ | assumption | refine Only.drewN ?_ _ | refine Only.drew ?_ | refine Only.alloc ?_ _ | refine Only.trans ?_ (by assumption))) K8; have S8 := S7.only K78 (by simp; omega); have c08 := S8.cell 0 rfl; have c18 := S8.cell 1 rfl; have c28 := S8.cell 2 rfl; have c38 := S8.cell 3 rfl; have c48 := S8.cell 4 rfl; have c58 := S8.cell 5 rfl; have z8 := S8.frozen; have c48a := (S8.keep ((Only.refl _ _).alloc (.cells #[.slice a8 p8.length c8] 27))).cell 4 rfl; have R8 := A8.rd; have F8 := A8.fresh; have HA8 := Lib.hid A8; clear A8; have H8 := HH.out.only K78 (fun b hb => by simp at hb; omega); have hs8 : w.heap.size + 1 ≤ w8.heap.size := Nat.le_trans (by omega : w.heap.size + 1 ≤ w7.heap.size) K78.size)
                  | (refine step_push2w (α := List Int) rfl (.tmp 73) (.tmp 76) 24 rfl (w.heap.size + 1) 27 i0 _ 24 Tryz.underlying24 hi hz0 hz1 hz2 rfl (by decide) (by decide) w8 (.slice A4 x.history.length C4) x.history hs rfl H8.hi (by with_reducible repeat (first | exact Only.refl _ _ | assumption | refine Only.drewN ?_ _ | refine Only.drew ?_ | refine Only.alloc ?_ _ | refine Only.trans ?_ (by assumption))) hs8 _ 1 [.slice a8 p8.length c8] p8 _ rfl (lit_src _ [.slice a8 p8.length c8] _ rfl) (by intro u hu; simp at hu; subst hu; rfl) (Rp.keep R8 (by with_reducible repeat (first | exact Only.refl _ _ | assumption | refine Only.drewN ?_ _ | refine Only.drew ?_ | refine Only.alloc ?_ _ | refine Only.trans ?_ (by assumption)))) ?hap hlen ?_; (case hap => (intro b hb he; have h1 := F8.ge b hb; have h2 := (HH.out.hi.ownlt b he).2; simp at h1; omega)); intro v9 w9 hA9 hO9 hN9; obtain ⟨a9, c9, rfl⟩ := hA9.form; rw [List.length_append, List.length_singleton] at hA9 hN9; have H9 := (H8.keep (by with_reducible repeat (first | exact Only.refl _ _ | assumption | refine Only.drewN ?_ _ | refine Only.drew ?_ | refine Only.alloc ?_ _ | refine Only.trans ?_ (by assumption)))).push hA9 hO9 hN9 (fun b hb => by have := F8.ge b hb; simp at this; omega) (by have := K78.size; simp; omega) (by simp; omega); have S9 := (S8.keep (by with_reducible repeat (first | exact Only.refl _ _ | assumption | refine Only.drewN ?_ _ | refine Only.drew ?_ | refine Only.alloc ?_ _ | refine Only.trans ?_ (by assumption)))).only hO9 H8.sb_own; have c09 := S9.cell 0 rfl; have c19 := S9.cell 1 rfl; have c29 := S9.cell 2 rfl; have c39 := S9.cell 3 rfl; have c49 := S9.cell 4 rfl; have c59 := S9.cell 5 rfl; have z9 := S9.frozen; have B9 := ((B7.only K78 (by simp; omega)).keep (by with_reducible repeat (first | exact Only.refl _ _ | assumption | refine Only.drewN ?_ _ | refine Only.drew ?_ | refine Only.alloc ?_ _ | refine Only.trans ?_ (by assumption)))).only hO9 (fun hm => by have := H8.own_ge _ hm; omega); have D9 := (D8.keep (by with_reducible repeat (first | exact Only.refl _ _ | assumption | refine Only.drewN ?_ _ | refine Only.drew ?_ | refine Only.alloc ?_ _ | refine Only.trans ?_ (by assumption)))).only hO9 (fun hm => by have := H8.own_ge _ hm; omega) (fun b hb hm => by have h1 := hfc b hb; have := H8.own_ge _ hm; omega); have k9 : Only [g] w w9 := Only.then_ (show Only [g] w _ from Only.trans (k7'.trans K78) (by with_reducible repeat (first | exact Only.refl _ _ | assumption | refine Only.drewN ?_ _ | refine Only.drew ?_ | refine Only.alloc ?_ _ | refine Only.trans ?_ (by assumption)))) hO9 (fun b hb hl => by have := H8.own_ge b hb; omega); have HH9 := Lib.hid H9; clear H9 hA9)
                  | fail "no arm")
                all_goals
                  go_wp2
                  go_meet
                  have kst : Only [sb] w9 (w9.setCell ⟨sb, 4, none⟩ (.slice a9 (x.history.length + 1) c9)) := (Only.refl _ _).setCell (by simp) _
                  have H10 := HH9.out.only kst (fun b hb => by simp at hb; omega)
                  have e10 : (x.history ++ [p8]).length = x.history.length + 1 := by simp
                  have S10 := S9.set 4 (.slice a9 (x.history.length + 1) c9)
                  rw [← e10] at S10
                  exact ⟨⟨x.puzzle, x.state, x.history ++ [p8], x.future⟩, A2, A3, a9, A5, C2, C3, c9, C5, _, by rw [← e10]; exact S10, se_rep (x := ⟨x.puzzle, x.state, x.history ++ [p8], x.future⟩) HPt.out.nm H10.r1 H10.r2 (H10.hi.rd (by decide)) H10.r3, fun b hb => by
                    rcases List.mem_append.1 hb with hb | hb
                    · exact (H10.ge b (List.mem_append_left _ hb)).1.1
                    · rcases List.mem_append.1 hb with hb | hb
                      · exact (H10.ge b (List.mem_append_right _ (List.mem_append_left _ hb))).1.1
                      · rcases List.mem_append.1 hb with hb | hb
                        · exact (H10.hge b hb).1
                        · exact (H10.ge b (List.mem_append_right _ (List.mem_append_right _ hb))).1.1, by show x.puzzle.moves.length ≤ 1000; omega, B9.only kst (by simp; omega), D9.only kst (by simp; omega) (fun b hb hm => by have := hfc b hb; simp at hm; omega), k9.then_ kst (fun b hb hl => by simp at hb; omega)⟩
              · by_cases e2 : r = 2
                · subst e2
                  go_wp2
                  have hH7 := HPt.out.fut
                  have HH := Lib.hid hH7
                  have hlen : x.future.length + 1 ≤ 1073741824 := by omega
                  clear hH7
                  go_region_law (first
                    | (go_simp; go_at_call 51; (with_reducible refine (extremeInt_any g fc l _ (D7.keep (by with_reducible repeat (first | exact Only.refl _ _ | assumption | refine Only.drewN ?_ _ | refine Only.drew ?_ | refine Only.alloc ?_ _ | refine Only.trans ?_ (by assumption)))) hl).mono ?_); rintro en w8 ⟨y, rfl, hy, D8, K8⟩; have K78 : Only [g] w7 w8 := Only.trans (by with_reducible repeat (first | exact Only.refl _ _ | assumption | refine Only.drewN ?_ _ | refine Only.drew ?_ | refine Only.alloc ?_ _ | refine Only.trans ?_ (by assumption))) K8; have S8 := S7.only K78 (by simp; omega); have c08 := S8.cell 0 rfl; have c18 := S8.cell 1 rfl; have c28 := S8.cell 2 rfl; have c38 := S8.cell 3 rfl; have c48 := S8.cell 4 rfl; have c58 := S8.cell 5 rfl; have z8 := S8.frozen; have c58a := (S8.keep ((Only.refl _ _).alloc (.cells #[.int .i64 y] 2))).cell 5 rfl; have c58b := (S8.keep (((Only.refl _ _).alloc (.cells #[.int .i64 y] 2)).alloc (.cells #[.slice (some ⟨w8.heap.size, 0, none⟩) 1 1] 27))).cell 5 rfl; have R8 : Rd (w8.alloc (.cells #[.int .i64 y] 2)) (.slice (some ⟨w8.heap.size, 0, none⟩) 1 1) [y] [w8.heap.size] := (AccI.one hy w8 w8.heap.size 2 rfl (Nat.le_refl _)).rd; have H8 := HH.out.only K78 (fun b hb => by simp at hb; omega); have hs8 : w.heap.size + 1 ≤ w8.heap.size := Nat.le_trans (by omega : w.heap.size + 1 ≤ w7.heap.size) K78.size; have Hy := Lib.hid hy; clear hy)
                    | (refine step_push2w (α := List Int) rfl (.tmp 82) (.tmp 86) 24 rfl (w.heap.size + 1) 27 i0 _ 24 Tryz.underlying24 hi hz0 hz1 hz2 rfl (by decide) (by decide) w8 (.slice A5 x.future.length C5) x.future us rfl H8.hi (by with_reducible repeat (first | exact Only.refl _ _ | assumption | refine Only.drewN ?_ _ | refine Only.drew ?_ | refine Only.alloc ?_ _ | refine Only.trans ?_ (by assumption))) hs8 _ 1 [.slice (some ⟨w8.heap.size, 0, none⟩) 1 1] [y] [w8.heap.size] rfl (lit_src _ [.slice (some ⟨w8.heap.size, 0, none⟩) 1 1] _ (by simp)) (by intro u hu; simp at hu; subst hu; rfl) (Rp.keep R8 (by with_reducible repeat (first | exact Only.refl _ _ | assumption | refine Only.drewN ?_ _ | refine Only.drew ?_ | refine Only.alloc ?_ _ | refine Only.trans ?_ (by assumption)))) ?hap hlen ?_; (case hap => (intro b hb he; have h2 := (H8.hi.ownlt b he).2; simp at hb; omega)); intro v9 w9 hA9 hO9 hN9; obtain ⟨a9, c9, rfl⟩ := hA9.form; rw [List.length_append, List.length_singleton] at hA9 hN9; have H9 := (H8.keep (by with_reducible repeat (first | exact Only.refl _ _ | assumption | refine Only.drewN ?_ _ | refine Only.drew ?_ | refine Only.alloc ?_ _ | refine Only.trans ?_ (by assumption)))).push hA9 hO9 hN9 (fun b hb => by have := K78.size; simp at hb; omega) (by have := K78.size; simp; omega) (by simp; omega); have S9 := (S8.keep (by with_reducible repeat (first | exact Only.refl _ _ | assumption | refine Only.drewN ?_ _ | refine Only.drew ?_ | refine Only.alloc ?_ _ | refine Only.trans ?_ (by assumption)))).only hO9 H8.sb_own; have c09 := S9.cell 0 rfl; have c19 := S9.cell 1 rfl; have c29 := S9.cell 2 rfl; have c39 := S9.cell 3 rfl; have c49 := S9.cell 4 rfl; have c59 := S9.cell 5 rfl; have z9 := S9.frozen; have B9 := ((B7.only K78 (by simp; omega)).keep (by with_reducible repeat (first | exact Only.refl _ _ | assumption | refine Only.drewN ?_ _ | refine Only.drew ?_ | refine Only.alloc ?_ _ | refine Only.trans ?_ (by assumption)))).only hO9 (fun hm => by have := H8.own_ge _ hm; omega); have D9 := (D8.keep (by with_reducible repeat (first | exact Only.refl _ _ | assumption | refine Only.drewN ?_ _ | refine Only.drew ?_ | refine Only.alloc ?_ _ | refine Only.trans ?_ (by assumption)))).only hO9 (fun hm => by have := H8.own_ge _ hm; omega) (fun b hb hm => by have h1 := hfc b hb; have := H8.own_ge _ hm; omega); have k9 : Only [g] w w9 := Only.then_ (show Only [g] w _ from Only.trans (k7'.trans K78) (by with_reducible repeat (first | exact Only.refl _ _ | assumption | refine Only.drewN ?_ _ | refine Only.drew ?_ | refine Only.alloc ?_ _ | refine Only.trans ?_ (by assumption)))) hO9 (fun b hb hl => by have := H8.own_ge b hb; omega); have HH9 := Lib.hid H9; clear H9 hA9)
                    | fail "no arm")
                  all_goals
                    go_wp2
                    go_meet
                    have kst : Only [sb] w9 (w9.setCell ⟨sb, 5, none⟩ (.slice a9 (x.future.length + 1) c9)) := (Only.refl _ _).setCell (by simp) _
                    have H10 := HH9.out.only kst (fun b hb => by simp at hb; omega)
                    have e10 : (x.future ++ [[y]]).length = x.future.length + 1 := by simp
                    have S10 := S9.set 5 (.slice a9 (x.future.length + 1) c9)
                    rw [← e10] at S10
                    exact ⟨⟨x.puzzle, x.state, x.history, x.future ++ [[y]]⟩, A2, A3, A4, a9, C2, C3, C4, c9, _, by rw [← e10]; exact S10, se_rep (x := ⟨x.puzzle, x.state, x.history, x.future ++ [[y]]⟩) HPt.out.nm H10.r1 H10.r2 H10.r3 (H10.hi.rd (by decide)), fun b hb => by
                      rcases List.mem_append.1 hb with hb | hb
                      · exact (H10.ge b (List.mem_append_left _ hb)).1.1
                      · rcases List.mem_append.1 hb with hb | hb
                        · exact (H10.ge b (List.mem_append_right _ (List.mem_append_left _ hb))).1.1
                        · rcases List.mem_append.1 hb with hb | hb
                          · exact (H10.ge b (List.mem_append_right _ (List.mem_append_right _ hb))).1.1
                          · exact (H10.hge b hb).1, by show x.puzzle.moves.length ≤ 1000; omega, B9.only kst (by simp; omega), D9.only kst (by simp; omega) (fun b hb hm => by have := hfc b hb; simp at hm; omega), k9.then_ kst (fun b hb hl => by simp at hb; omega)⟩
                · by_cases e3 : r = 3
                  · subst e3
                    go_wp2_with (first
                      | (go_at_call 66; (with_reducible refine (drawAnyPuzzle_any g fc l w7 D7 hl).mono ?_); rintro e w8 ⟨n8, nm8, vm8, gs8, f8, rfl, n64, nl8, r8, F8, l9, l30, D8, K8⟩; obtain ⟨a8, c8, _, _, rfl, -, -⟩ := Rd.open_ r8; have S8 := S7.only K8 (by simp; omega); have B8 := B7.only K8 (by simp; omega); have c08 := S8.cell 0 rfl; have c18 := S8.cell 1 rfl; have c28 := S8.cell 2 rfl; have c38 := S8.cell 3 rfl; have c48 := S8.cell 4 rfl; have c58 := S8.cell 5 rfl; have z8 := S8.frozen)
                      | fail "no arm")
                    go_meet
                    have kst : Only [sb] w8 (((w8.setCell ⟨sb, 0, none⟩ (.int .i64 n8)).setCell ⟨sb, 1, none⟩ (.string nm8)).setCell ⟨sb, 2, none⟩ (.slice a8 gs8.length c8)) := (((Only.refl _ _).setCell (by simp) _).setCell (by simp) _).setCell (by simp) _
                    have hPt8 := (HPt.out.only K8 (fun b hb => by simp at hb; omega)).only kst (fun b hb => by simp at hb; omega)
                    have r9 := Rp.only r8 kst (fun b hb hm => by have := F8.ge b hb; simp at hm; omega)
                    exact ⟨⟨⟨n8, nm8, gs8⟩, x.state, x.history, x.future⟩, a8, A3, A4, A5, c8, C3, C4, C5, _, ((S8.set 0 (.int .i64 n8)).set 1 (.string nm8)).set 2 (.slice a8 gs8.length c8), se_rep (x := ⟨⟨n8, nm8, gs8⟩, x.state, x.history, x.future⟩) ⟨n64, by show nm8.size ≤ maxLen; unfold maxLen; omega⟩ r9 hPt8.st (hPt8.hi.rd (by decide)) (hPt8.fu.rd (by decide)), fun b hb => by
                      rcases List.mem_append.1 hb with hb | hb
                      · have := F8.ge b hb; omega
                      · exact (hPt8.ge b (List.mem_append_right _ hb)).1, by show gs8.length ≤ 1000; omega, B8.only kst (by simp; omega), D8.only kst (by simp; omega) (fun b hb hm => by have := hfc b hb; simp at hm; omega), (k7'.trans K8).then_ kst (fun b hb hl => by simp at hb; omega)⟩
                  · have e4 : r = 4 := by omega
                    subst e4
                    have hH7 := HPt.out.hist
                    have h6l : x.history.length ≤ 45 := by omega
                    have hl0 : lenV ((w7.cell? ⟨sb, 4, none⟩).getD undef) = x.history.length := by rw [c47]; rfl
                    go_wp2
                    go_loopw [] (fun wr => ∃ (H : List (List Int)) (A : Option Addr) (C : Nat) (hs' : List (List Nat)), HS 27 (w.heap.size + 1) sb wr (.slice A2 x.puzzle.moves.length C2) (.slice A3 x.state.length C3) (.slice A5 x.future.length C5) x.puzzle.moves x.state x.future fm fs ((Value.slice A5 x.future.length C5).ownBlock.toList ++ us.flatten) A C H hs' ∧ Blk wr sb [.int .i64 x.puzzle.points, .string x.puzzle.names, .slice A2 x.puzzle.moves.length C2, .slice A3 x.state.length C3, .slice A H.length C, .slice A5 x.future.length C5] ∧ Blk wr w.heap.size [.int .i64 0, .string ⟨#[]⟩, .slice none 0 0, .slice none 0 0, .slice none 0 0, .slice none 0 0] ∧ Src wr g fc l ∧ Only [g] w wr ∧ H.length ≤ 45 ∧ sb < wr.heap.size)
                      (fun wr => 50 - lenV ((wr.cell? ⟨sb, 4, none⟩).getD undef))
                    case atStart => exact ⟨x.history, A4, C4, hs, hH7, S7, B7, D7, k7', h6l, hsb7⟩
                    case round =>
                      obtain ⟨w7', hnew⟩ : ∃ W, W = wr := ⟨_, rfl⟩
                      subst hnew
                      clear c07 c17 c27 c37 c47 c57 z7 S7 B7 D7 k7' hsb7 hH7 h6l hl0
                      obtain ⟨H, A, C, hs', HHx, S7, B7, D7, k7', h45, hsb7⟩ := hrel
                      have HH := Lib.hid HHx
                      clear HHx
                      have c07 := S7.cell 0 rfl; have c17 := S7.cell 1 rfl; have c27 := S7.cell 2 rfl; have c37 := S7.cell 3 rfl; have c47 := S7.cell 4 rfl; have c57 := S7.cell 5 rfl; have z7 := S7.frozen
                      have hlen : H.length + 1 ≤ 1073741824 := by omega
                      go_wp2
                      go_region_law (first
                        | (go_simp; go_at_call 52; (with_reducible refine (srcBelow_any g fc l 2 _ (D7.keep (by with_reducible repeat (first | exact Only.refl _ _ | assumption | refine Only.drewN ?_ _ | refine Only.drew ?_ | refine Only.alloc ?_ _ | refine Only.trans ?_ (by assumption)))) hl (by omega)).mono ?_); rintro en w8 ⟨y, rfl, y0, y1, D8, K8⟩; have K78 : Only [g] w7' w8 := Only.trans (by with_reducible repeat (first | exact Only.refl _ _ | assumption | refine Only.drewN ?_ _ | refine Only.drew ?_ | refine Only.alloc ?_ _ | refine Only.trans ?_ (by assumption))) K8; have S8 := S7.only K78 (by simp; omega); have c08 := S8.cell 0 rfl; have c18 := S8.cell 1 rfl; have c28 := S8.cell 2 rfl; have c38 := S8.cell 3 rfl; have c48 := S8.cell 4 rfl; have c58 := S8.cell 5 rfl; have z8 := S8.frozen; have hw40 : IntKind.i64.wrap (40 + y) = 40 + y := (by rw [IntKind.wrap_i64]; omega); have H8 := HH.out.only K78 (fun b hb => by simp at hb; omega); have hs8 : w.heap.size + 1 ≤ w8.heap.size := Nat.le_trans (by omega : w.heap.size + 1 ≤ w7'.heap.size) K78.size)
                        | fail "no arm")
                      all_goals go_wp2_with (first
                        | (at_builtin; refine wpList_push2 (α := List Int) rfl _ _ 24 rfl (w.heap.size + 1) 27 i0 _ 24 Tryz.underlying24 hi hz0 hz1 hz2 rfl (by decide) (by decide) w8 (.slice A H.length C) H hs' rfl H8.hi (by with_reducible repeat (first | exact Only.refl _ _ | assumption | refine Only.drewN ?_ _ | refine Only.drew ?_ | refine Only.alloc ?_ _ | refine Only.trans ?_ (by assumption))) hs8 _ 1 [.slice (some ⟨w8.heap.size, 0, none⟩) 1 1] [1] [w8.heap.size] rfl (lit_src _ [.slice (some ⟨w8.heap.size, 0, none⟩) 1 1] _ (by simp)) (by intro u hu; simp at hu; subst hu; rfl) (Rp.keep (AccI.one (n := 1) (by unfold I64; omega) w8 w8.heap.size 2 rfl (Nat.le_refl _)).rd (by with_reducible repeat (first | exact Only.refl _ _ | assumption | refine Only.drewN ?_ _ | refine Only.drew ?_ | refine Only.alloc ?_ _ | refine Only.trans ?_ (by assumption)))) ?hap hlen ?_; (case hap => (intro b hb he; have h2 := (H8.hi.ownlt b he).2; simp at hb; omega)); intro v9 w9 hA9 hO9 hN9; obtain ⟨a9, c9, rfl⟩ := hA9.form; rw [List.length_append, List.length_singleton] at hA9 hN9; have H9 := (H8.keep (by with_reducible repeat (first | exact Only.refl _ _ | assumption | refine Only.drewN ?_ _ | refine Only.drew ?_ | refine Only.alloc ?_ _ | refine Only.trans ?_ (by assumption)))).push hA9 hO9 hN9 (fun b hb => by have := K78.size; simp at hb; omega) (by have := K78.size; simp; omega) (by simp; omega); have S9 := (S8.keep (by with_reducible repeat (first | exact Only.refl _ _ | assumption | refine Only.drewN ?_ _ | refine Only.drew ?_ | refine Only.alloc ?_ _ | refine Only.trans ?_ (by assumption)))).only hO9 H8.sb_own; have c09 := S9.cell 0 rfl; have c19 := S9.cell 1 rfl; have c29 := S9.cell 2 rfl; have c39 := S9.cell 3 rfl; have c49 := S9.cell 4 rfl; have c59 := S9.cell 5 rfl; have z9 := S9.frozen; have B9 := ((B7.only K78 (by simp; omega)).keep (by with_reducible repeat (first | exact Only.refl _ _ | assumption | refine Only.drewN ?_ _ | refine Only.drew ?_ | refine Only.alloc ?_ _ | refine Only.trans ?_ (by assumption)))).only hO9 (fun hm => by have := H8.own_ge _ hm; omega); have D9 := (D8.keep (by with_reducible repeat (first | exact Only.refl _ _ | assumption | refine Only.drewN ?_ _ | refine Only.drew ?_ | refine Only.alloc ?_ _ | refine Only.trans ?_ (by assumption)))).only hO9 (fun hm => by have := H8.own_ge _ hm; omega) (fun b hb hm => by have h1 := hfc b hb; have := H8.own_ge _ hm; omega); have k9 : Only [g] w w9 := Only.then_ (show Only [g] w _ from Only.trans (k7'.trans K78) (by with_reducible repeat (first | exact Only.refl _ _ | assumption | refine Only.drewN ?_ _ | refine Only.drew ?_ | refine Only.alloc ?_ _ | refine Only.trans ?_ (by assumption)))) hO9 (fun b hb hl => by have := H8.own_ge b hb; omega); have HH9 := Lib.hid H9; have hs9 : sb < w9.heap.size := (by have h1 := K78.size; have h2 := hO9.size; simp at h2; omega); clear H9 hA9)
                        | fail "no arm")
                      all_goals first
                        | (go_meet; exact ⟨⟨x.puzzle, x.state, H, x.future⟩, A2, A3, A, A5, C2, C3, C, C5, _, S8, se_rep (x := ⟨x.puzzle, x.state, H, x.future⟩) HPt.out.nm H8.r1 H8.r2 (H8.hi.rd (by decide)) H8.r3, fun b hb => by
                            rcases List.mem_append.1 hb with hb | hb
                            · exact (H8.ge b (List.mem_append_left _ hb)).1.1
                            · rcases List.mem_append.1 hb with hb | hb
                              · exact (H8.ge b (List.mem_append_right _ (List.mem_append_left _ hb))).1.1
                              · rcases List.mem_append.1 hb with hb | hb
                                · exact (H8.hge b hb).1
                                · exact (H8.ge b (List.mem_append_right _ (List.mem_append_right _ hb))).1.1, by show x.puzzle.moves.length ≤ 1000; omega, B7.only K78 (by simp; omega), D8, k7'.trans K78⟩)
                        | (have kst : Only [sb] w9 (w9.setCell ⟨sb, 4, none⟩ (.slice a9 (H.length + 1) c9)) := (Only.refl _ _).setCell (by simp) _
                           have H10 := HH9.out.only kst (fun b hb => by simp at hb; omega)
                           have e10 : (H ++ [[1]]).length = H.length + 1 := by simp
                           have S10 := S9.set 4 (.slice a9 (H.length + 1) c9)
                           have c10 := S10.cell 4 rfl
                           rw [← e10] at S10
                           refine ⟨⟨H ++ [[1]], a9, c9, _, H10, by rw [← e10]; exact S10, B9.only kst (by simp; omega), D9.only kst (by simp; omega) (fun b hb hm => by have := hfc b hb; simp at hm; omega), k9.then_ kst (fun b hb hl => by simp at hb; omega), by rw [e10]; omega, Nat.lt_of_lt_of_le hs9 kst.size⟩, ?_⟩
                           rw [c10, c47]
                           show 50 - (H.length + 1) < 50 - H.length
                           omega)
        case rest =>
          obtain ⟨W9, hnew⟩ : ∃ W, W = wc := ⟨_, rfl⟩
          subst hnew
          obtain ⟨y, A2, A3, A4, A5, C2, C3, C4, C5, fp, S9, r9, ge9, ml9, B9, D9, k9⟩ := hcut
          refine (show ∀ a w, Code.wp Tryz.prog _ _ a w → _ from by assumption) _ _ ?_
          have c0s := S9.cell 0 rfl; have c1s := S9.cell 1 rfl; have c2s := S9.cell 2 rfl; have c3s := S9.cell 3 rfl; have c4s := S9.cell 4 rfl; have c5s := S9.cell 5 rfl; have zs := S9.frozen
          have g0 := B9.cell 0 rfl
          have g1 := B9.cell 1 rfl
          have g2 := B9.cell 2 rfl
          have g3 := B9.cell 3 rfl
          have g4 := B9.cell 4 rfl
          have g5 := B9.cell 5 rfl
          have zb := B9.frozen
          go_wp2
          have Yf := B9.set6 (.int .i64 y.puzzle.points) (.string y.puzzle.names) (.slice A2 y.puzzle.moves.length C2) (.slice A3 y.state.length C3) (.slice A4 y.history.length C4) (.slice A5 y.future.length C5)
          have kst := only_set6 W9 w.heap.size (.int .i64 y.puzzle.points) (.string y.puzzle.names) (.slice A2 y.puzzle.moves.length C2) (.slice A3 y.state.length C3) (.slice A4 y.history.length C4) (.slice A5 y.future.length C5)
          have q0 := Yf.cell 0 rfl
          have q1 := Yf.cell 1 rfl
          have q2 := Yf.cell 2 rfl
          have q3 := Yf.cell 3 rfl
          have q4 := Yf.cell 4 rfl
          have q5 := Yf.cell 5 rfl
          refine bodyPost_ret (v := .agg #[.int .i64 y.puzzle.points, .string y.puzzle.names, .slice A2 y.puzzle.moves.length C2, .slice A3 y.state.length C3, .slice A4 y.history.length C4, .slice A5 y.future.length C5]) (by simp [results, Tryz.results24, go_sem, q0, q1, q2, q3, q4, q5]) rfl ?_
          exact ⟨y, A2, A3, A4, A5, C2, C3, C4, C5, fp, rfl, Rp.only r9 kst (fun b hb hm => by have := ge9 b hb; simp at hm; omega), fun b hb => by have := ge9 b hb; omega, ml9, D9.only kst (by simp; omega) (fun b hb hm => by have := hfc b hb; simp at hm; omega), k9.then_ kst (fun b hb hl => by simp at hb; omega)⟩
end Go.Proofs.YtajkhdbdkjhilaaGreat

namespace Go.Proofs.YtajkhdbdkjhilaaGreat
open Go.RowKit
set_option maxRecDepth 10000
/-- drawn: a session and a seed -/
def DSS (w : World) (e : Ending) (w' : World) : Prop :=
  ∃ (x : Session) (A2 A3 A4 A5 : Option Addr) (C2 C3 C4 C5 : Nat) (fp : List Nat) (sd : Int), e = .returned (.tuple #[.agg #[.int .i64 x.puzzle.points, .string x.puzzle.names, .slice A2 x.puzzle.moves.length C2, .slice A3 x.state.length C3, .slice A4 x.history.length C4, .slice A5 x.future.length C5], .int .i64 sd]) ∧ Rp.rep w' [.int .i64 x.puzzle.points, .string x.puzzle.names, .slice A2 x.puzzle.moves.length C2, .slice A3 x.state.length C3, .slice A4 x.history.length C4, .slice A5 x.future.length C5] x fp ∧ I64 sd ∧ Only [] w w'
set_option maxHeartbeats 8000000 in
theorem drawScrambleSession_any (v : Value) (l : List UInt8) (fc : List Nat) (w : World) (h : Rd w v l fc) (hl : l.length ≤ 4096) :
    Calls Tryz.prog 18 #[v] w (DSS w) := by
  have hfc : ∀ b ∈ fc, b < w.heap.size := Rp.lt h
  have hB0 := Blk.new w [.int .i64 0, .string ⟨#[]⟩, .slice none 0 0, .slice none 0 0, .slice none 0 0, .slice none 0 0] 29
  have ho : Only [] w (w.alloc (.cells #[.int .i64 0, .string ⟨#[]⟩, .slice none 0 0, .slice none 0 0, .slice none 0 0, .slice none 0 0] 29)) := (Only.refl _ _).alloc _
  have Hsz0 : Hid ((w.alloc (.cells #[.int .i64 0, .string ⟨#[]⟩, .slice none 0 0, .slice none 0 0, .slice none 0 0, .slice none 0 0] 29)).heap.size = w.heap.size + 1) := Lib.hid (by simp)
  go_enter Tryz.func18, Tryz.ntmps18
  go_upto_region 3 with (first
    | (go_at_call 23; (with_reducible refine (newSource_any v l fc _ (Rp.keep h ho) hl).mono ?_); rintro e w1 ⟨g, rfl, D1, hg, t1⟩; rw [Hsz0.out] at hg; have B1 := hB0.keep t1; have k1 := ho.trans t1; have hs1 := t1.size; rw [Hsz0.out] at hs1)
    | (go_at_call 24; (with_reducible refine (drawSession_any g fc l w1 D1 hl).mono ?_); rintro e w2 ⟨x, A2, A3, A4, A5, C2, C3, C4, C5, fp, rfl, hR, hge, hml, D2, K2⟩; have B2 := (B1.only K2 (by simp; omega)).keep ((Only.refl _ _).alloc (.cells #[.int .i64 x.puzzle.points, .string x.puzzle.names, .slice A2 x.puzzle.moves.length C2, .slice A3 x.state.length C3, .slice A4 x.history.length C4, .slice A5 x.future.length C5] 29)); have S2 := Blk.new w2 [.int .i64 x.puzzle.points, .string x.puzzle.names, .slice A2 x.puzzle.moves.length C2, .slice A3 x.state.length C3, .slice A4 x.history.length C4, .slice A5 x.future.length C5] 29; have HR := Lib.hid (Rp.keep hR ((Only.refl _ _).alloc (.cells #[.int .i64 x.puzzle.points, .string x.puzzle.names, .slice A2 x.puzzle.moves.length C2, .slice A3 x.state.length C3, .slice A4 x.history.length C4, .slice A5 x.future.length C5] 29))); have D2' := D2.keep ((Only.refl _ _).alloc (.cells #[.int .i64 x.puzzle.points, .string x.puzzle.names, .slice A2 x.puzzle.moves.length C2, .slice A3 x.state.length C3, .slice A4 x.history.length C4, .slice A5 x.future.length C5] 29)); have Hge := Lib.hid hge; clear hR hge)
    | fail "no arm")
  have hg1 := D1.lt
  have FPG : ∀ b ∈ fp, b ≠ g := fun b hb => by have := Hge.out b hb; omega
  have hs2 := K2.size
  have hsz2 : (w2.alloc (.cells #[.int .i64 x.puzzle.points, .string x.puzzle.names, .slice A2 x.puzzle.moves.length C2, .slice A3 x.state.length C3, .slice A4 x.history.length C4, .slice A5 x.future.length C5] 29)).heap.size = w2.heap.size + 1 := by simp
  have kW2 : Only [g] w (w2.alloc (.cells #[.int .i64 x.puzzle.points, .string x.puzzle.names, .slice A2 x.puzzle.moves.length C2, .slice A3 x.state.length C3, .slice A4 x.history.length C4, .slice A5 x.future.length C5] 29)) := ((k1.weaken [g]).trans K2).alloc _
  obtain ⟨W2, hW2⟩ : ∃ W, W = w2.alloc (.cells #[.int .i64 x.puzzle.points, .string x.puzzle.names, .slice A2 x.puzzle.moves.length C2, .slice A3 x.state.length C3, .slice A4 x.history.length C4, .slice A5 x.future.length C5] 29) := ⟨_, rfl⟩
  obtain ⟨sb, hsb⟩ : ∃ sb, sb = w2.heap.size := ⟨_, rfl⟩
  rw [← hW2] at B2 HR D2' hsz2 kW2 ⊢
  rw [← hW2, ← hsb] at S2
  rw [← hsb] at hsz2 ⊢
  have hgl : g < sb := by have := D2.lt; omega
  have hsb1 : w.heap.size + 1 ≤ sb := by omega
  have hfpg : ∀ b ∈ fp, b ∉ [w.heap.size] := fun b hb hm => by have := Hge.out b hb; simp at hm; omega
  have Hfp := Lib.hid hfpg
  have Hsz := Lib.hid hsz2
  clear hW2 hsb hfpg hB0 ho B1 D1 D2 hsz2 t1 k1 K2
  go_wp2_with (first
    | (go_at_call 25; (with_reducible refine (oneIn_any g fc l 6 W2 D2' hl (by omega)).mono ?_); rintro e w3 ⟨b3, rfl, D3, K3⟩; have S3 := S2.only K3 (by simp; omega); have B3 := B2.only K3 (by simp; omega); have c03 := S3.cell 0 rfl; have c13 := S3.cell 1 rfl; have c23 := S3.cell 2 rfl; have c33 := S3.cell 3 rfl; have c43 := S3.cell 4 rfl; have c53 := S3.cell 5 rfl; have z3 := S3.frozen; have d03 := B3.cell 0 rfl; have d13 := B3.cell 1 rfl; have d23 := B3.cell 2 rfl; have d33 := B3.cell 3 rfl; have d43 := B3.cell 4 rfl; have d53 := B3.cell 5 rfl; have y3 := B3.frozen)
    | fail "no arm")
  all_goals
    have Hfg : Hid (∀ b ∈ fp, b ∉ [g]) := Lib.hid (fun b hb hm => FPG b hb (by simpa using hm))
    have HR3 := Rp.only HR.out K3 (fun b hb => Hfg.out b hb)
  · have _e : True := trivial
    go_region_law (first
      | (go_simp; go_at_call 51; (with_reducible refine (extremeInt_any g fc l _ (D3.keep (by with_reducible repeat (first | exact Only.refl _ _ | assumption | refine Only.drewN ?_ _ | refine Only.drew ?_ | refine Only.alloc ?_ _ | refine Only.trans ?_ (by assumption)))) hl).mono ?_); rintro en w8 ⟨y, rfl, hy, D8, K8⟩; have Hy := Lib.hid hy; clear hy; have K38 : Only [g] w3 w8 := Only.trans (by with_reducible repeat (first | exact Only.refl _ _ | assumption | refine Only.drewN ?_ _ | refine Only.drew ?_ | refine Only.alloc ?_ _ | refine Only.trans ?_ (by assumption))) K8; have S8 := S3.only K38 (by simp; omega); have c08 := S8.cell 0 rfl; have c18 := S8.cell 1 rfl; have c28 := S8.cell 2 rfl; have c38 := S8.cell 3 rfl; have c48 := S8.cell 4 rfl; have c58 := S8.cell 5 rfl; have z8 := S8.frozen; have B8 := B3.only K38 (by simp; omega); have d08 := B8.cell 0 rfl; have d18 := B8.cell 1 rfl; have d28 := B8.cell 2 rfl; have d38 := B8.cell 3 rfl; have d48 := B8.cell 4 rfl; have d58 := B8.cell 5 rfl; have y8 := B8.frozen; have HR8 := Rp.only HR3 K38 (fun b hb => Hfg.out b hb))
      | fail "no arm")
    all_goals
      go_wp2
      have Yf := B8.set6 (.int .i64 x.puzzle.points) (.string x.puzzle.names) (.slice A2 x.puzzle.moves.length C2) (.slice A3 x.state.length C3) (.slice A4 x.history.length C4) (.slice A5 x.future.length C5)
      have kst := only_set6 w8 w.heap.size (.int .i64 x.puzzle.points) (.string x.puzzle.names) (.slice A2 x.puzzle.moves.length C2) (.slice A3 x.state.length C3) (.slice A4 x.history.length C4) (.slice A5 x.future.length C5)
      have q0 := Yf.cell 0 rfl
      have q1 := Yf.cell 1 rfl
      have q2 := Yf.cell 2 rfl
      have q3 := Yf.cell 3 rfl
      have q4 := Yf.cell 4 rfl
      have q5 := Yf.cell 5 rfl
      refine bodyPost_ret (v := .tuple #[.agg #[.int .i64 x.puzzle.points, .string x.puzzle.names, .slice A2 x.puzzle.moves.length C2, .slice A3 x.state.length C3, .slice A4 x.history.length C4, .slice A5 x.future.length C5], .int .i64 y]) (by simp [results, Tryz.results18, go_sem, q0, q1, q2, q3, q4, q5]) rfl ?_
      exact ⟨x, A2, A3, A4, A5, C2, C3, C4, C5, fp, y, rfl, Rp.only HR8 kst Hfp.out, Hy.out, ((kW2.trans (K3.trans K38)).then_ kst (fun b hb hl => by simp at hb; omega)).mono (fun b hb hlt => by simp at hb; omega)⟩
  · have _e : True := trivial
    go_region_law (first
      | (go_simp; go_at_call 52; (with_reducible refine (srcBelow_any g fc l 1000 _ (D3.keep (by with_reducible repeat (first | exact Only.refl _ _ | assumption | refine Only.drewN ?_ _ | refine Only.drew ?_ | refine Only.alloc ?_ _ | refine Only.trans ?_ (by assumption)))) hl (by omega)).mono ?_); rintro en w8 ⟨y, rfl, y0, y1, D8, K8⟩; have Hy : Hid (I64 y) := Lib.hid (by unfold I64; omega); have K38 : Only [g] w3 w8 := Only.trans (by with_reducible repeat (first | exact Only.refl _ _ | assumption | refine Only.drewN ?_ _ | refine Only.drew ?_ | refine Only.alloc ?_ _ | refine Only.trans ?_ (by assumption))) K8; have S8 := S3.only K38 (by simp; omega); have c08 := S8.cell 0 rfl; have c18 := S8.cell 1 rfl; have c28 := S8.cell 2 rfl; have c38 := S8.cell 3 rfl; have c48 := S8.cell 4 rfl; have c58 := S8.cell 5 rfl; have z8 := S8.frozen; have B8 := B3.only K38 (by simp; omega); have d08 := B8.cell 0 rfl; have d18 := B8.cell 1 rfl; have d28 := B8.cell 2 rfl; have d38 := B8.cell 3 rfl; have d48 := B8.cell 4 rfl; have d58 := B8.cell 5 rfl; have y8 := B8.frozen; have HR8 := Rp.only HR3 K38 (fun b hb => Hfg.out b hb))
      | fail "no arm")
    all_goals
      go_wp2
      have Yf := B8.set6 (.int .i64 x.puzzle.points) (.string x.puzzle.names) (.slice A2 x.puzzle.moves.length C2) (.slice A3 x.state.length C3) (.slice A4 x.history.length C4) (.slice A5 x.future.length C5)
      have kst := only_set6 w8 w.heap.size (.int .i64 x.puzzle.points) (.string x.puzzle.names) (.slice A2 x.puzzle.moves.length C2) (.slice A3 x.state.length C3) (.slice A4 x.history.length C4) (.slice A5 x.future.length C5)
      have q0 := Yf.cell 0 rfl
      have q1 := Yf.cell 1 rfl
      have q2 := Yf.cell 2 rfl
      have q3 := Yf.cell 3 rfl
      have q4 := Yf.cell 4 rfl
      have q5 := Yf.cell 5 rfl
      refine bodyPost_ret (v := .tuple #[.agg #[.int .i64 x.puzzle.points, .string x.puzzle.names, .slice A2 x.puzzle.moves.length C2, .slice A3 x.state.length C3, .slice A4 x.history.length C4, .slice A5 x.future.length C5], .int .i64 y]) (by simp [results, Tryz.results18, go_sem, q0, q1, q2, q3, q4, q5]) rfl ?_
      exact ⟨x, A2, A3, A4, A5, C2, C3, C4, C5, fp, y, rfl, Rp.only HR8 kst Hfp.out, Hy.out, ((kW2.trans (K3.trans K38)).then_ kst (fun b hb hl => by simp at hb; omega)).mono (fun b hb hlt => by simp at hb; omega)⟩
end Go.Proofs.YtajkhdbdkjhilaaGreat
