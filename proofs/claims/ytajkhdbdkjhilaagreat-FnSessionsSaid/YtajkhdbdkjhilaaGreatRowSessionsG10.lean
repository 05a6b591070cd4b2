/- Histories: a word more, a word less; copies of sessions. Copies of sessions: the reference's and the program's; what they are made of. (Printed by mkseops2.py.) -/
import Derived.Test.YtajkhdbdkjhilaaGreatRowSessionsG9
import Derived.BigQuiet
namespace Go.Proofs.YtajkhdbdkjhilaaGreat
open Go.RowKit
set_option maxRecDepth 10000

theorem pushW_long {l : List (List Int)} {y : List Int} (h : 40 < l.length + 1) : pushW l y = (l ++ [y]).drop 1 := if_pos h
theorem pushW_short {l : List (List Int)} {y : List Int} (h : ¬ 40 < l.length + 1) : pushW l y = l ++ [y] := if_neg h
theorem Rd.frm {α : Type} [Rp α] {w w' : World} {a : Option Addr} {cap : Nat} {xs : List α} {ob : List Nat} {fps : List (List Nat)} (ho : Only [] w w') (h : SeqA w a cap xs ob fps) : ∀ b ∈ ob ++ fps.flatten, w'.heap[b]? = w.heap[b]? :=
  fun b hb => ho.block b (h.lt_all b hb) (by simp)
theorem flatten_take : ∀ (fs : List (List Nat)) (k : Nat), (fs.take k).flatten.Sublist fs.flatten
  | [], _ => by simp
  | _ :: _, 0 => by simp
  | f :: fs, k + 1 => by simpa using List.Sublist.append (List.Sublist.refl f) (flatten_take fs k)
theorem flatten_drop1 (fs : List (List Nat)) : (fs.drop 1).flatten.Sublist fs.flatten := by
  cases fs with
  | nil => simp
  | cons f fs => simp
theorem Fresh.sublist {B : Nat} {w : World} {fp fp' : List Nat} (h : Fresh B w fp) (hs : fp'.Sublist fp) : Fresh B w fp' :=
  ⟨h.nd.sublist hs, fun b hb => h.ge b (hs.subset hb), h.own.sub fun _ hb => hs.subset hb⟩
section
variable {α : Type} [Rp α] {B : Nat} {e : TypeId} {w : World} {v : Value} {l : List α} {fs : List (List Nat)}
/-- an appended slice without its first element: its memory -/
theorem Acc.drop1 (h : Acc B e w v l fs) (hs : Rp.size α = 1) (hl : 0 < l.length) (hf : Fresh B w fs.flatten) :
    ∃ g c fp, v = .slice (some ⟨g, 0, none⟩) l.length c ∧ 1 ≤ c ∧ c ≤ maxLen ∧ l.length ≤ c ∧ Rd w (.slice (some ⟨g, 1, none⟩) (l.length - 1) (c - 1)) (l.drop 1) fp ∧ Fresh B w fp ∧ ∀ b ∈ fp, b ∈ v.ownBlock.toList ++ fs.flatten := by
  obtain ⟨css, ho, hcl, hr⟩ := h.own
  obtain ⟨a, cap, hv, hE, hI⟩ := own_seq (xs := l) (fps := fs) ho (by omega) hcl h.fl hr
  obtain ⟨b, off, cs, e1, e2, -, -⟩ := hI.at_ 0 hl
  have hF := h.fresh hf
  have e3 : off = 0 := by
    rcases ho.2 with ⟨h1, h2⟩ | ⟨g, cp, cur, h1, -⟩
    · omega
    · rw [hv] at h1
      injection h1 with h1 _ _
      rw [e1] at h1
      injection h1 with h1
      injection h1
  subst e1
  subst e3
  have hd := hI.drop1 hs hl
  have h1 := hI.len
  have h2 := hI.cap
  have hlen : (l.drop 1).length = l.length - 1 := by simp
  have hsub : (v.ownBlock.toList ++ (fs.drop 1).flatten).Sublist (v.ownBlock.toList ++ fs.flatten) := List.Sublist.append (List.Sublist.refl _) (flatten_drop1 fs)
  refine ⟨b, cap, _, hv, by omega, h2, h1, ?_, hF.sublist hsub, fun x hx => hsub.subset hx⟩
  have := hd.rd
  rwa [hlen] at this
end
set_option maxHeartbeats 1000000 in
theorem pushWord_rd (vl vy : Value) (l : List (List Int)) (y : List Int) (fl fy : List Nat) (w : World) (hl : Rd w vl l fl) (hy : Rd w vy y fy) (hll : l.length ≤ 40) (hl2 : ∀ x ∈ l, x.length ≤ 2097152) (hyl : y.length ≤ 1073741824) :
    Calls Tryz.prog 35 #[vl, vy] w fun e w' => ∃ v fp', e = .returned v ∧ Rd w' v (pushW l y) fp' ∧ Fresh w.heap.size w' fp' ∧ Only [] w w' := by
  obtain ⟨i1, hi, hz0, hz1, hz2⟩ := info_parts Tryz.info22
  obtain ⟨al, cl, obl, fpsl, rfl, -, Sl⟩ := hl.open_
  have HSl := Lib.hid Sl
  have Hl2 := Lib.hid hl2
  clear Sl hl2
  have hap : (l ++ [y]).length = l.length + 1 := by simp
  have Hap := Lib.hid hap
  clear hap
  by_cases hlong : 40 < l.length + 1
  · go_enter Tryz.func35, Tryz.ntmps35
    go_wp2_with (first
      | (go_at_call 76; (with_reducible refine (copyLists_acc al cl l obl fpsl _ HSl.out (by omega) Hl2.out).mono ?_); rintro e w1 ⟨v1, fs1, rfl, A1, F1, t1⟩; obtain ⟨a1, c1, rfl⟩ := A1.form)
      | (go_at_call 75; (with_reducible refine (copyInts_rd _ y _ _ (Rp.keep hy t1) hyl).mono ?_); rintro e w2 ⟨v2, f2, rfl, r2, F2, t2⟩; obtain ⟨a2, c2, rfl, -⟩ := r2.ints)
      | (at_builtin; go_loud (refine wpList_pushF rfl _ _ 24 rfl w.heap.size 27 i1 _ 24 Tryz.underlying24 hi hz0 hz1 hz2 rfl (by decide) (by decide) w1 _ l fs1 rfl A1 F1 (t2.alloc _) t1.size w2.heap.size 1 [.slice a2 y.length c2] y f2 rfl (lit_src w2 [.slice a2 y.length c2] _ rfl) (by intro u hu; simp at hu; subst hu; rfl) (Rp.keep r2 ((Only.refl _ _).alloc _)) (F2.keep ((Only.refl _ _).alloc _)) (by omega) w ((t1.trans t2).alloc _) (Nat.le_refl _) ?_; intro v3 w3 hA3 hF3 hK3 _; obtain ⟨g3, c3, fp3, rfl, k1, k2, k3, R3, F3, -⟩ := hA3.drop1 rfl (by simp) hF3; rw [Hap.out] at k3 R3; have k4 : 1 < c3 := (by omega)))
      | fail "no arm")
    go_ret
    exact ⟨_, fp3, rfl, by rw [pushW_long hlong]; exact R3, F3, hK3⟩
  · go_enter Tryz.func35, Tryz.ntmps35
    go_wp2_with (first
      | (go_at_call 76; (with_reducible refine (copyLists_acc al cl l obl fpsl _ HSl.out (by omega) Hl2.out).mono ?_); rintro e w1 ⟨v1, fs1, rfl, A1, F1, t1⟩; obtain ⟨a1, c1, rfl⟩ := A1.form)
      | (go_at_call 75; (with_reducible refine (copyInts_rd _ y _ _ (Rp.keep hy t1) hyl).mono ?_); rintro e w2 ⟨v2, f2, rfl, r2, F2, t2⟩; obtain ⟨a2, c2, rfl, -⟩ := r2.ints)
      | (at_builtin; go_loud (refine wpList_pushF rfl _ _ 24 rfl w.heap.size 27 i1 _ 24 Tryz.underlying24 hi hz0 hz1 hz2 rfl (by decide) (by decide) w1 _ l fs1 rfl A1 F1 (t2.alloc _) t1.size w2.heap.size 1 [.slice a2 y.length c2] y f2 rfl (lit_src w2 [.slice a2 y.length c2] _ rfl) (by intro u hu; simp at hu; subst hu; rfl) (Rp.keep r2 ((Only.refl _ _).alloc _)) (F2.keep ((Only.refl _ _).alloc _)) (by omega) w ((t1.trans t2).alloc _) (Nat.le_refl _) ?_; intro v3 w3 hA3 hF3 hK3 _; obtain ⟨a3, c3, rfl⟩ := hA3.form; have R3 := hA3.rd (by decide); have F3 := hA3.fresh hF3; rw [Hap.out] at R3 F3))
      | fail "no arm")
    go_ret
    exact ⟨_, _, rfl, by rw [pushW_short hlong]; exact R3, F3, hK3⟩
theorem wpList_push2f {P : Program} {α : Type} [Rp α] {ops : Array Oper} {rest : List Oper} {o : Oper} {a : Act} {w : World} {Q : Exit → Act → World → Prop} (hgd : o.guard = none) (s x : Operand) (t : TypeId)
    (ho : o.op = .call { callee := .builtin .append, args := #[s, x], argTypes := #[t, t] })
    (B : Nat) (e : TypeId) (i : TypeInfo) (z : Value) (bytes : Nat) (ht : P.underlying t = some (.slice e)) (hi : P.info? e = some i) (hz : i.zero = some z)
    (hsize : i.size = Rp.size α) (hby : i.bytes = bytes) (hzs : z.cells.size = Rp.size α) (hsz : 0 < Rp.size α) (hbb : bytes ≤ 65536)
    (w0 : World) (v : Value) (l : List α) (fs : List (List Nat)) (hs : a.eval s = v) (hA : Acc B e w0 v l fs) (hF : Fresh B w0 fs.flatten) (hK0 : Only [] w0 w) (hB : B ≤ w0.heap.size)
    (g c : Nat) (cs : List Value) (y : α) (fp : List Nat) (hx : a.eval x = .slice (some ⟨g, 0, none⟩) 1 c) (hsrc : ∀ j u, cs[j]? = some u → w.cell? ⟨g, j, none⟩ = some u) (hcs : ∀ u ∈ cs, u.oneCell' = true)
    (hy : Rp.rep w cs y fp) (hFy : Fresh w0.heap.size w fp) (hlen : l.length + 1 ≤ 1073741824)
    (h : ∀ v' w', Acc B e w' v' (l ++ [y]) (fs ++ [fp]) → Fresh B w' (fs ++ [fp]).flatten → Only v.ownBlock.toList w w' → (∀ b ∈ v'.ownBlock.toList ++ (fs ++ [fp]).flatten, b ∈ v.ownBlock.toList ++ fs.flatten ∨ w0.heap.size ≤ b) → wpList P ops Q rest (a.put o.dst v') w') : wpList P ops Q (o :: rest) a w :=
  wpList_plain hgd fun _ hK => wp_push2 s x t ho B e i z bytes ht hi hz hsize hby hzs hsz hbb w0 v l fs hs hA hK0 hB g c cs y fp hx hsrc hcs hy
    (fun b hb hv => by have := (hA.ownlt b hv).2; have := hFy.ge b hb; omega) hlen fun v' w' h1 h2 _ h4 h5 => hK _ _ (h v' w' h1 (h4 hF hFy) h2 (fun b hb => by
      rcases List.mem_append.1 hb with hb | hb
      · have hb' : v'.ownBlock = some b := by simpa using hb
        rcases h5 with e1 | e1
        · exact .inl (List.mem_append_left _ (by rw [← e1]; exact hb))
        · rw [e1] at hb'
          injection hb' with hb'
          have := hK0.size
          exact .inr (by omega)
      · rw [List.flatten_append] at hb
        rcases List.mem_append.1 hb with hb | hb
        · exact .inl (List.mem_append_right _ hb)
        · exact .inr (hFy.ge b (by simpa using hb))))
set_option maxHeartbeats 1000000 in
/-- the program's push: the slice is the call's own, and may be written behind its end -/
theorem pushed_acc {B : Nat} (vl vy : Value) (l : List (List Int)) (y : List Int) (fsl : List (List Nat)) (fy : List Nat) (w : World) (hA : Acc B 27 w vl l fsl) (hF : Fresh B w fsl.flatten) (hy : Rd w vy y fy) (hB : B ≤ w.heap.size) (hll : l.length ≤ 40) (hyl : y.length ≤ 1073741824) :
    Calls Tryz.prog 31 #[vl, vy] w fun e w' => ∃ v fp', e = .returned v ∧ Rd w' v (pushW l y) fp' ∧ Fresh B w' fp' ∧ (∀ b ∈ fp', b ∈ vl.ownBlock.toList ++ fsl.flatten ∨ w.heap.size ≤ b) ∧ Only vl.ownBlock.toList w w' := by
  obtain ⟨i1, hi, hz0, hz1, hz2⟩ := info_parts Tryz.info22
  obtain ⟨al, cl, rfl⟩ := hA.form
  have hap : (l ++ [y]).length = l.length + 1 := by simp
  have Hap := Lib.hid hap
  have HA := Lib.hid hA
  have HF := Lib.hid hF
  clear hap hA hF
  by_cases hlong : 40 < l.length + 1
  · go_enter Tryz.func31, Tryz.ntmps31
    go_wp2_with (first
      | (go_at_call 69; (with_reducible refine (Clone_rd _ y _ _ hy hyl).mono ?_); rintro e w2 ⟨v2, f2, rfl, r2, F2, t2⟩; obtain ⟨a2, c2, rfl, -⟩ := r2.ints)
      | (at_builtin; go_loud (refine wpList_push2f rfl _ _ 24 rfl B 27 i1 _ 24 Tryz.underlying24 hi hz0 hz1 hz2 rfl (by decide) (by decide) w (.slice al l.length cl) l fsl rfl HA.out HF.out (t2.alloc _) hB w2.heap.size 1 [.slice a2 y.length c2] y f2 rfl (lit_src w2 [.slice a2 y.length c2] _ rfl) (by intro u hu; simp at hu; subst hu; rfl) (Rp.keep r2 ((Only.refl _ _).alloc _)) (F2.keep ((Only.refl _ _).alloc _)) (by omega) ?_; intro v3 w3 hA3 hF3 hO3 hs3; obtain ⟨g3, c3, fp3, rfl, k1, k2, k3, R3, F3, hs4⟩ := hA3.drop1 rfl (by simp) hF3; rw [Hap.out] at k3 R3; have k4 : 1 < c3 := (by omega)))
      | fail "no arm")
    go_ret
    exact ⟨_, fp3, rfl, by rw [pushW_long hlong]; exact R3, F3, fun b hb => hs3 b (hs4 b hb), ((t2.alloc _).weaken _).trans hO3⟩
  · go_enter Tryz.func31, Tryz.ntmps31
    go_wp2_with (first
      | (go_at_call 69; (with_reducible refine (Clone_rd _ y _ _ hy hyl).mono ?_); rintro e w2 ⟨v2, f2, rfl, r2, F2, t2⟩; obtain ⟨a2, c2, rfl, -⟩ := r2.ints)
      | (at_builtin; go_loud (refine wpList_push2f rfl _ _ 24 rfl B 27 i1 _ 24 Tryz.underlying24 hi hz0 hz1 hz2 rfl (by decide) (by decide) w (.slice al l.length cl) l fsl rfl HA.out HF.out (t2.alloc _) hB w2.heap.size 1 [.slice a2 y.length c2] y f2 rfl (lit_src w2 [.slice a2 y.length c2] _ rfl) (by intro u hu; simp at hu; subst hu; rfl) (Rp.keep r2 ((Only.refl _ _).alloc _)) (F2.keep ((Only.refl _ _).alloc _)) (by omega) ?_; intro v3 w3 hA3 hF3 hO3 hs3; obtain ⟨a3, c3, rfl⟩ := hA3.form; have R3 := hA3.rd (by decide); have F3 := hA3.fresh hF3; rw [Hap.out] at R3 F3 hs3))
      | fail "no arm")
    go_ret
    exact ⟨_, _, rfl, by rw [pushW_short hlong]; exact R3, F3, hs3, ((t2.alloc _).weaken _).trans hO3⟩
end Go.Proofs.YtajkhdbdkjhilaaGreat

namespace Go.Proofs.YtajkhdbdkjhilaaGreat
open Go.RowKit
set_option maxRecDepth 10000

/-- a session of the call's own, in parts -/
structure SeP (eI : TypeId) (B : Nat) (w : World) (x : Session) (vm vs vh vf : Value) (fm fs : List Nat) (hs us : List (List Nat)) : Prop where
  nm : I64 x.puzzle.points ∧ x.puzzle.names.size ≤ maxLen
  mv : Rd w vm x.puzzle.moves fm
  st : Rd w vs x.state fs
  hi : Acc B eI w vh x.history hs
  fu : Acc B eI w vf x.future us
  fr : Fresh B w (fm ++ (fs ++ ((vh.ownBlock.toList ++ hs.flatten) ++ (vf.ownBlock.toList ++ us.flatten))))
section
variable {eI : TypeId} {B : Nat} {w w' : World} {x : Session} {vm vs vh vf : Value} {fm fs : List Nat} {hs us : List (List Nat)}
theorem SeP.only (h : SeP eI B w x vm vs vh vf fm fs hs us) {fp : List Nat} (ho : Only fp w w') (hd : ∀ b ∈ fp, b < B ∨ w.heap.size ≤ b) : SeP eI B w' x vm vs vh vf fm fs hs us := by
  have key : ∀ b ∈ fm ++ (fs ++ ((vh.ownBlock.toList ++ hs.flatten) ++ (vf.ownBlock.toList ++ us.flatten))), b ∉ fp := fun b hb hm => by
    have h1 := h.fr.ge b hb
    have h2 := h.fr.lt b hb
    rcases hd b hm with h3 | h3 <;> omega
  have k1 : ∀ b ∈ fm, b ∉ fp := fun b hb => key b (List.mem_append_left _ hb)
  have k2 : ∀ b ∈ fs, b ∉ fp := fun b hb => key b (List.mem_append_right _ (List.mem_append_left _ hb))
  have k3 : ∀ b ∈ vh.ownBlock.toList ++ hs.flatten, b ∉ fp := fun b hb => key b (List.mem_append_right _ (List.mem_append_right _ (List.mem_append_left _ hb)))
  have k4 : ∀ b ∈ vf.ownBlock.toList ++ us.flatten, b ∉ fp := fun b hb => key b (List.mem_append_right _ (List.mem_append_right _ (List.mem_append_right _ hb)))
  exact ⟨h.nm, Rp.only h.mv ho k1, Rp.only h.st ho k2, h.hi.only ho (fun b hb => k3 b (List.mem_append_right _ hb)) (fun g hg => k3 g (List.mem_append_left _ (by simp [hg]))), h.fu.only ho (fun b hb => k4 b (List.mem_append_right _ hb)) (fun g hg => k4 g (List.mem_append_left _ (by simp [hg]))), h.fr.only ho key⟩
theorem Acc.mono {α : Type} [Rp α] {B B' : Nat} {e : TypeId} {w : World} {v : Value} {l : List α} {fs : List (List Nat)} (h : Acc B e w v l fs) (hB : B' ≤ B) : Acc B' e w v l fs := by
  obtain ⟨css, ho, hr⟩ := h.own
  refine ⟨⟨css, ⟨ho.1, ?_⟩, hr⟩, h.fl, h.apart⟩
  rcases ho.2 with h1 | ⟨g, cp, cur, h1, h2, h3⟩
  · exact .inl h1
  · exact .inr ⟨g, cp, cur, h1, Nat.le_trans hB h2, h3⟩
theorem SeP.mono (h : SeP eI B w x vm vs vh vf fm fs hs us) {B' : Nat} (hB : B' ≤ B) : SeP eI B' w x vm vs vh vf fm fs hs us :=
  ⟨h.nm, h.mv, h.st, h.hi.mono hB, h.fu.mono hB, h.fr.mono hB⟩
/-- parts made one behind the other -/
theorem SeP.made {w1 w2 w3 w4 : World} (nm : I64 x.puzzle.points ∧ x.puzzle.names.size ≤ maxLen) {B1 : Nat} (r1 : Rd w1 vm x.puzzle.moves fm) (F1 : Fresh B1 w1 fm) (r2 : Rd w2 vs x.state fs) (F2 : Fresh w1.heap.size w2 fs) (r3 : Acc w2.heap.size eI w3 vh x.history hs) (F3 : Fresh w2.heap.size w3 hs.flatten)
    (r4 : Acc w3.heap.size eI w4 vf x.future us) (F4 : Fresh w3.heap.size w4 us.flatten) (t2 : Only [] w1 w2) (t3 : Only [] w2 w3) (t4 : Only [] w3 w4) (hB : B ≤ B1) (hB1 : B1 ≤ w1.heap.size) : SeP eI B w4 x vm vs vh vf fm fs hs us := by
  have s2 := t2.size
  have s3 := t3.size
  have s4 := t4.size
  refine ⟨nm, Rp.keep (Rp.keep (Rp.keep r1 t2) t3) t4, Rp.keep (Rp.keep r2 t3) t4, (r3.keep t4).mono (by omega), r4.mono (by omega), ?_⟩
  have f4 := r4.fresh F4
  have f3 := (r3.fresh F3)
  have f34 := Fresh.append (f3.keep t4) f4 s3 fun b hb => f3.lt b hb
  have f234 := Fresh.append ((F2.keep t3).keep t4) f34 s2 fun b hb => F2.lt b hb
  exact (Fresh.append (((F1.keep t2).keep t3).keep t4) f234 hB1 fun b hb => F1.lt b hb).mono hB
theorem SeP.keep (h : SeP eI B w x vm vs vh vf fm fs hs us) (ho : Only [] w w') : SeP eI B w' x vm vs vh vf fm fs hs us := h.only ho (by simp)
theorem SeP.rep (h : SeP eI B w x vm vs vh vf fm fs hs us) : Rp.rep w [.int .i64 x.puzzle.points, .string x.puzzle.names, vm, vs, vh, vf] x (fm ++ (fs ++ ((vh.ownBlock.toList ++ hs.flatten) ++ (vf.ownBlock.toList ++ us.flatten)))) :=
  ⟨[.int .i64 x.puzzle.points, .string x.puzzle.names, vm], vs, vh, vf, fm, fs, _, _, rfl, rfl, ⟨vm, rfl, h.nm.1, h.nm.2, h.mv⟩, h.st, h.hi.rd (by decide), h.fu.rd (by decide)⟩
end
/-- what a copy leaves -/
def CopyP (eI : TypeId) (w : World) (x : Session) (e : Ending) (w' : World) : Prop :=
  ∃ Am Cm As Cs Ah Ch Af Cf fm fs hs us, e = .returned (.agg #[.int .i64 x.puzzle.points, .string x.puzzle.names, .slice Am x.puzzle.moves.length Cm, .slice As x.state.length Cs, .slice Ah x.history.length Ch, .slice Af x.future.length Cf]) ∧
    SeP eI w.heap.size w' x (.slice Am x.puzzle.moves.length Cm) (.slice As x.state.length Cs) (.slice Ah x.history.length Ch) (.slice Af x.future.length Cf) fm fs hs us ∧ Only [] w w'
theorem validSe_facts {x : Session} (h : validSe x = true) : stateB x.puzzle x.state = true ∧ x.puzzle.moves.length ≤ 8 ∧ (∀ y ∈ x.puzzle.moves, y.length ≤ 2097152) ∧ x.state.length ≤ 20 ∧ x.history.length ≤ 40 ∧ (∀ y ∈ x.history, y.length ≤ 2097152) ∧ x.future.length ≤ 40 ∧ (∀ y ∈ x.future, y.length ≤ 2097152) := by
  unfold validSe at h
  rw [Bool.and_eq_true, Bool.and_eq_true] at h
  obtain ⟨h1, h2, h3⟩ := h
  have hs := reachB_state h1
  obtain ⟨a, b, c, d⟩ := stateB_pn hs
  obtain ⟨l1, l2⟩ := wordsB_len h2
  obtain ⟨l3, l4⟩ := wordsB_len h3
  refine ⟨hs, b, fun y hy => ?_, ?_, l1, fun y hy => ?_, l3, fun y hy => ?_⟩
  · have := (c y hy).1; omega
  · have := d.1; omega
  · have := validW_len (l2 y hy); omega
  · have := validW_len (l4 y hy); omega
set_option maxHeartbeats 4000000 in
theorem copySession_any (cs : List Value) (x : Session) (fp : List Nat) (w : World) (h : Rp.rep w cs x fp) (hv : validSe x = true) :
    Calls Tryz.prog 32 #[.agg cs.toArray] w (CopyP 27 w x) := by
  obtain ⟨c0, v1, v2, v3, f0, f1, f2, f3, rfl, rfl, k0, k1, k2, k3⟩ := h
  have q0 := k0
  obtain ⟨u2, rfl, p0, p1, h2⟩ := q0
  obtain ⟨A2, C2, _, _, rfl, -, -⟩ := h2.open_
  obtain ⟨A3, C3, _, _, rfl, -, -⟩ := k1.open_
  obtain ⟨A4, C4, ob4, fp4, rfl, -, S4⟩ := k2.open_
  obtain ⟨A5, C5, ob5, fp5, rfl, -, S5⟩ := k3.open_
  obtain ⟨-, m1, m2, m3, m4, m5, m6, m7⟩ := validSe_facts hv
  have Hm2 := Lib.hid m2
  have Hm5 := Lib.hid m5
  have Hm7 := Lib.hid m7
  have HS4 := Lib.hid S4
  have HS5 := Lib.hid S5
  clear m2 m5 m7 hv S4 S5
  have hW0 : Only [] w ((w.alloc (.cells #[.int .i64 x.puzzle.points, .string x.puzzle.names, .slice A2 x.puzzle.moves.length C2, .slice A3 x.state.length C3, .slice A4 x.history.length C4, .slice A5 x.future.length C5] 29)).alloc (.cells #[.int .i64 0, .string ⟨#[]⟩, .slice none 0 0, .slice none 0 0, .slice none 0 0, .slice none 0 0] 29)) := ((Only.refl _ _).alloc _).alloc _
  have hB : Blk ((w.alloc (.cells #[.int .i64 x.puzzle.points, .string x.puzzle.names, .slice A2 x.puzzle.moves.length C2, .slice A3 x.state.length C3, .slice A4 x.history.length C4, .slice A5 x.future.length C5] 29)).alloc (.cells #[.int .i64 0, .string ⟨#[]⟩, .slice none 0 0, .slice none 0 0, .slice none 0 0, .slice none 0 0] 29)) w.heap.size [.int .i64 x.puzzle.points, .string x.puzzle.names, .slice A2 x.puzzle.moves.length C2, .slice A3 x.state.length C3, .slice A4 x.history.length C4, .slice A5 x.future.length C5] := Blk.keep (Blk.new_at rfl) ((Only.refl _ _).alloc _)
  have HB := Lib.hid hB; clear hB
  go_enter Tryz.func32, Tryz.ntmps32
  go_wp2
  go_region_held3 (fun w' => Only [w.heap.size + 1] ((w.alloc (.cells #[.int .i64 x.puzzle.points, .string x.puzzle.names, .slice A2 x.puzzle.moves.length C2, .slice A3 x.state.length C3, .slice A4 x.history.length C4, .slice A5 x.future.length C5] 29)).alloc (.cells #[.int .i64 0, .string ⟨#[]⟩, .slice none 0 0, .slice none 0 0, .slice none 0 0, .slice none 0 0] 29)) w' ∧ w'.cell? ⟨w.heap.size, 0, none⟩ = some (Value.int .i64 x.puzzle.points) ∧ w'.cell? ⟨w.heap.size, 1, none⟩ = some (.string x.puzzle.names) ∧ w'.cell? ⟨w.heap.size, 2, none⟩ = some (.slice A2 x.puzzle.moves.length C2) ∧ w'.cell? ⟨w.heap.size, 3, none⟩ = some (.slice A3 x.state.length C3) ∧ w'.cell? ⟨w.heap.size, 4, none⟩ = some (.slice A4 x.history.length C4) ∧ w'.cell? ⟨w.heap.size, 5, none⟩ = some (.slice A5 x.future.length C5)) ((refine and_of ?_ (fun h__ => ⟨(Blk.only HB.out h__ (by simp)).cell 0 rfl, (Blk.only HB.out h__ (by simp)).cell 1 rfl, (Blk.only HB.out h__ (by simp)).cell 2 rfl, (Blk.only HB.out h__ (by simp)).cell 3 rfl, (Blk.only HB.out h__ (by simp)).cell 4 rfl, (Blk.only HB.out h__ (by simp)).cell 5 rfl⟩); first | (with_reducible exact (Only.refl _ _).drew) | (with_reducible exact Only.keepThen (And.left (by assumption)) (by assumption)) | (with_reducible exact Only.setCell (Only.setCell (Only.setCell (Only.setCell (Only.setCell (Only.setCell (And.left (by assumption)) (by intro _; simp) _) (by intro _; simp) _) (by intro _; simp) _) (by intro _; simp) _) (by intro _; simp) _) (by intro _; simp) _))) (first
    | (go_at_call 74; (with_reducible refine (copyPuzzle_any [.int .i64 x.puzzle.points, .string x.puzzle.names, .slice A2 x.puzzle.moves.length C2] x.puzzle _ _ (Rp.keep k0 (Only.own1 hW0 (And.left (by assumption)) (Nat.le_succ _))) (by omega) Hm2.out).mono ?_); rintro en w1 ⟨u1, g1, rfl, r1, F1, t1⟩; obtain ⟨uu, rfl, -, -, R1⟩ := r1; obtain ⟨A6, C6, _, _, rfl, -⟩ := R1.open_; have y1 := t1.cells_eq (w.heap.size + 1) (by simp) (by simp); have z1 := t1.frozen_eq (w.heap.size + 1) (by simp) (by simp); have s1 : w.heap.size + 1 < w1.heap.size := (by have := t1.size; simp at this; omega))
    | (go_at_call 75; (with_reducible refine (copyInts_rd _ x.state _ _ (Rp.keep k1 (Only.own1 hW0 (And.left (by assumption)) (Nat.le_succ _))) (by omega)).mono ?_); rintro en w2 ⟨v6, g2, rfl, r2, F2, t2⟩; obtain ⟨A7, C7, _, _, rfl, -⟩ := r2.open_; have y2 := t2.cells_eq (w.heap.size + 1) s1 (by simp); have z2 := t2.frozen_eq (w.heap.size + 1) s1 (by simp); have s2 : w.heap.size + 1 < w2.heap.size := Nat.lt_of_lt_of_le s1 t2.size)
    | (go_at_call 76; (with_reducible refine (copyLists_acc A4 C4 x.history ob4 fp4 _ (HS4.out.frame (Rd.frm (Only.own1 hW0 (And.left (by assumption)) (Nat.le_succ _)) HS4.out)) (by omega) Hm5.out).mono ?_); rintro en w3 ⟨v7, g3, rfl, r3, F3, t3⟩; obtain ⟨A8, C8, rfl⟩ := r3.form; have y3 := t3.cells_eq (w.heap.size + 1) s2 (by simp); have z3 := t3.frozen_eq (w.heap.size + 1) s2 (by simp); have s3 : w.heap.size + 1 < w3.heap.size := Nat.lt_of_lt_of_le s2 t3.size)
    | (go_at_call 76; (with_reducible refine (copyLists_acc A5 C5 x.future ob5 fp5 _ (HS5.out.frame (Rd.frm (Only.own1 hW0 (And.left (by assumption)) (Nat.le_succ _)) HS5.out)) (by omega) Hm7.out).mono ?_); rintro en w4 ⟨v8, g4, rfl, r4, F4, t4⟩; obtain ⟨A9, C9, rfl⟩ := r4.form; have y4 := t4.cells_eq (w.heap.size + 1) s3 (by simp); have z4 := t4.frozen_eq (w.heap.size + 1) s3 (by simp); have s4 : w.heap.size + 1 < w4.heap.size := Nat.lt_of_lt_of_le s3 t4.size)
    | fail "no arm")
  go_wp2
  have hW : Only [w.heap.size + 1] w4 ((((((w4.setCell ⟨w.heap.size + 1, 0, none⟩ (Value.int .i64 x.puzzle.points)).setCell ⟨w.heap.size + 1, 1, none⟩ (.string x.puzzle.names)).setCell ⟨w.heap.size + 1, 2, none⟩ (.slice A6 x.puzzle.moves.length C6)).setCell ⟨w.heap.size + 1, 3, none⟩ (.slice A7 x.state.length C7)).setCell ⟨w.heap.size + 1, 4, none⟩ (.slice A8 x.history.length C8)).setCell ⟨w.heap.size + 1, 5, none⟩ (.slice A9 x.future.length C9)) := by with_reducible exact Only.setCell (Only.setCell (Only.setCell (Only.setCell (Only.setCell (Only.setCell (Only.refl [w.heap.size + 1] w4) (by intro _; simp) _) (by intro _; simp) _) (by intro _; simp) _) (by intro _; simp) _) (by intro _; simp) _) (by intro _; simp) _
  have hP := (SeP.made (B := w.heap.size + 2) ⟨p0, p1⟩ R1 F1 r2 F2 r3 F3 r4 F4 t2 t3 t4 (by simp) (by have := t1.size; simpa using this)).only hW (fun b hb => by simp at hb; omega)
  refine bodyPost_ret (v := .agg #[Value.int .i64 x.puzzle.points, .string x.puzzle.names, .slice A6 x.puzzle.moves.length C6, .slice A7 x.state.length C7, .slice A8 x.history.length C8, .slice A9 x.future.length C9]) (by simp [results, Tryz.results32, go_sem, y4, y3, y2, y1]) rfl ⟨A6, C6, A7, C7, A8, C8, A9, C9, g1, g2, g3, g4, rfl, hP.mono (by omega), ?_⟩
  exact Only.own1 (hW0.trans ((Only.refl _ _).drew.trans (t1.trans (t2.trans (t3.trans t4))))) hW (Nat.le_succ _)
set_option maxHeartbeats 4000000 in
theorem cloneSession_any (cs : List Value) (x : Session) (fp : List Nat) (w : World) (h : Rp.rep w cs x fp) (hv : validSe x = true) :
    Calls Tryz.prog 28 #[.agg cs.toArray] w (CopyP 27 w x) := by
  obtain ⟨c0, v1, v2, v3, f0, f1, f2, f3, rfl, rfl, k0, k1, k2, k3⟩ := h
  have q0 := k0
  obtain ⟨u2, rfl, p0, p1, h2⟩ := q0
  obtain ⟨A2, C2, _, _, rfl, -, -⟩ := h2.open_
  obtain ⟨A3, C3, _, _, rfl, -, -⟩ := k1.open_
  obtain ⟨A4, C4, ob4, fp4, rfl, -, S4⟩ := k2.open_
  obtain ⟨A5, C5, ob5, fp5, rfl, -, S5⟩ := k3.open_
  obtain ⟨-, m1, m2, m3, m4, m5, m6, m7⟩ := validSe_facts hv
  have Hm2 := Lib.hid m2
  have Hm5 := Lib.hid m5
  have Hm7 := Lib.hid m7
  have HS4 := Lib.hid S4
  have HS5 := Lib.hid S5
  clear m2 m5 m7 hv S4 S5
  have hW0 : Only [] w ((w.alloc (.cells #[.int .i64 x.puzzle.points, .string x.puzzle.names, .slice A2 x.puzzle.moves.length C2, .slice A3 x.state.length C3, .slice A4 x.history.length C4, .slice A5 x.future.length C5] 29)).alloc (.cells #[.int .i64 0, .string ⟨#[]⟩, .slice none 0 0, .slice none 0 0, .slice none 0 0, .slice none 0 0] 29)) := ((Only.refl _ _).alloc _).alloc _
  have hB : Blk ((w.alloc (.cells #[.int .i64 x.puzzle.points, .string x.puzzle.names, .slice A2 x.puzzle.moves.length C2, .slice A3 x.state.length C3, .slice A4 x.history.length C4, .slice A5 x.future.length C5] 29)).alloc (.cells #[.int .i64 0, .string ⟨#[]⟩, .slice none 0 0, .slice none 0 0, .slice none 0 0, .slice none 0 0] 29)) w.heap.size [.int .i64 x.puzzle.points, .string x.puzzle.names, .slice A2 x.puzzle.moves.length C2, .slice A3 x.state.length C3, .slice A4 x.history.length C4, .slice A5 x.future.length C5] := Blk.keep (Blk.new_at rfl) ((Only.refl _ _).alloc _)
  have HB := Lib.hid hB; clear hB
  go_enter Tryz.func28, Tryz.ntmps28
  go_wp2
  go_region_held3 (fun w' => Only [w.heap.size + 1] ((w.alloc (.cells #[.int .i64 x.puzzle.points, .string x.puzzle.names, .slice A2 x.puzzle.moves.length C2, .slice A3 x.state.length C3, .slice A4 x.history.length C4, .slice A5 x.future.length C5] 29)).alloc (.cells #[.int .i64 0, .string ⟨#[]⟩, .slice none 0 0, .slice none 0 0, .slice none 0 0, .slice none 0 0] 29)) w' ∧ w'.cell? ⟨w.heap.size, 0, none⟩ = some (Value.int .i64 x.puzzle.points) ∧ w'.cell? ⟨w.heap.size, 1, none⟩ = some (.string x.puzzle.names) ∧ w'.cell? ⟨w.heap.size, 2, none⟩ = some (.slice A2 x.puzzle.moves.length C2) ∧ w'.cell? ⟨w.heap.size, 3, none⟩ = some (.slice A3 x.state.length C3) ∧ w'.cell? ⟨w.heap.size, 4, none⟩ = some (.slice A4 x.history.length C4) ∧ w'.cell? ⟨w.heap.size, 5, none⟩ = some (.slice A5 x.future.length C5)) ((refine and_of ?_ (fun h__ => ⟨(Blk.only HB.out h__ (by simp)).cell 0 rfl, (Blk.only HB.out h__ (by simp)).cell 1 rfl, (Blk.only HB.out h__ (by simp)).cell 2 rfl, (Blk.only HB.out h__ (by simp)).cell 3 rfl, (Blk.only HB.out h__ (by simp)).cell 4 rfl, (Blk.only HB.out h__ (by simp)).cell 5 rfl⟩); first | (with_reducible exact (Only.refl _ _).drew) | (with_reducible exact Only.keepThen (And.left (by assumption)) (by assumption)) | (with_reducible exact Only.setCell (Only.setCell (Only.setCell (Only.setCell (Only.setCell (Only.setCell (And.left (by assumption)) (by intro _; simp) _) (by intro _; simp) _) (by intro _; simp) _) (by intro _; simp) _) (by intro _; simp) _) (by intro _; simp) _))) (first
    | (go_at_call 68; (with_reducible refine (clonePuzzle_any [.int .i64 x.puzzle.points, .string x.puzzle.names, .slice A2 x.puzzle.moves.length C2] x.puzzle _ _ (Rp.keep k0 (Only.own1 hW0 (And.left (by assumption)) (Nat.le_succ _))) (by omega) Hm2.out).mono ?_); rintro en w1 ⟨u1, g1, rfl, r1, F1, t1⟩; obtain ⟨uu, rfl, -, -, R1⟩ := r1; obtain ⟨A6, C6, _, _, rfl, -⟩ := R1.open_; have y1 := t1.cells_eq (w.heap.size + 1) (by simp) (by simp); have z1 := t1.frozen_eq (w.heap.size + 1) (by simp) (by simp); have s1 : w.heap.size + 1 < w1.heap.size := (by have := t1.size; simp at this; omega))
    | (go_at_call 69; (with_reducible refine (Clone_rd _ x.state _ _ (Rp.keep k1 (Only.own1 hW0 (And.left (by assumption)) (Nat.le_succ _))) (by omega)).mono ?_); rintro en w2 ⟨v6, g2, rfl, r2, F2, t2⟩; obtain ⟨A7, C7, _, _, rfl, -⟩ := r2.open_; have y2 := t2.cells_eq (w.heap.size + 1) s1 (by simp); have z2 := t2.frozen_eq (w.heap.size + 1) s1 (by simp); have s2 : w.heap.size + 1 < w2.heap.size := Nat.lt_of_lt_of_le s1 t2.size)
    | (go_at_call 43; (with_reducible refine (cloneLists_acc A4 C4 x.history ob4 fp4 _ (HS4.out.frame (Rd.frm (Only.own1 hW0 (And.left (by assumption)) (Nat.le_succ _)) HS4.out)) (by omega) Hm5.out).mono ?_); rintro en w3 ⟨v7, g3, rfl, r3, F3, t3⟩; obtain ⟨A8, C8, rfl⟩ := r3.form; have y3 := t3.cells_eq (w.heap.size + 1) s2 (by simp); have z3 := t3.frozen_eq (w.heap.size + 1) s2 (by simp); have s3 : w.heap.size + 1 < w3.heap.size := Nat.lt_of_lt_of_le s2 t3.size)
    | (go_at_call 43; (with_reducible refine (cloneLists_acc A5 C5 x.future ob5 fp5 _ (HS5.out.frame (Rd.frm (Only.own1 hW0 (And.left (by assumption)) (Nat.le_succ _)) HS5.out)) (by omega) Hm7.out).mono ?_); rintro en w4 ⟨v8, g4, rfl, r4, F4, t4⟩; obtain ⟨A9, C9, rfl⟩ := r4.form; have y4 := t4.cells_eq (w.heap.size + 1) s3 (by simp); have z4 := t4.frozen_eq (w.heap.size + 1) s3 (by simp); have s4 : w.heap.size + 1 < w4.heap.size := Nat.lt_of_lt_of_le s3 t4.size)
    | fail "no arm")
  go_wp2
  have hW : Only [w.heap.size + 1] w4 ((((((w4.setCell ⟨w.heap.size + 1, 0, none⟩ (Value.int .i64 x.puzzle.points)).setCell ⟨w.heap.size + 1, 1, none⟩ (.string x.puzzle.names)).setCell ⟨w.heap.size + 1, 2, none⟩ (.slice A6 x.puzzle.moves.length C6)).setCell ⟨w.heap.size + 1, 3, none⟩ (.slice A7 x.state.length C7)).setCell ⟨w.heap.size + 1, 4, none⟩ (.slice A8 x.history.length C8)).setCell ⟨w.heap.size + 1, 5, none⟩ (.slice A9 x.future.length C9)) := by with_reducible exact Only.setCell (Only.setCell (Only.setCell (Only.setCell (Only.setCell (Only.setCell (Only.refl [w.heap.size + 1] w4) (by intro _; simp) _) (by intro _; simp) _) (by intro _; simp) _) (by intro _; simp) _) (by intro _; simp) _) (by intro _; simp) _
  have hP := (SeP.made (B := w.heap.size + 2) ⟨p0, p1⟩ R1 F1 r2 F2 r3 F3 r4 F4 t2 t3 t4 (by simp) (by have := t1.size; simpa using this)).only hW (fun b hb => by simp at hb; omega)
  refine bodyPost_ret (v := .agg #[Value.int .i64 x.puzzle.points, .string x.puzzle.names, .slice A6 x.puzzle.moves.length C6, .slice A7 x.state.length C7, .slice A8 x.history.length C8, .slice A9 x.future.length C9]) (by simp [results, Tryz.results28, go_sem, y4, y3, y2, y1]) rfl ⟨A6, C6, A7, C7, A8, C8, A9, C9, g1, g2, g3, g4, rfl, hP.mono (by omega), ?_⟩
  exact Only.own1 (hW0.trans ((Only.refl _ _).drew.trans (t1.trans (t2.trans (t3.trans t4))))) hW (Nat.le_succ _)
end Go.Proofs.YtajkhdbdkjhilaaGreat
