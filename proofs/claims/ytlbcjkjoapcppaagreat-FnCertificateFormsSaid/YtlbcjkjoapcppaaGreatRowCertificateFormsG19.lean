/- append of a whole row; the reference's drawTables, drawState, drawPuzzleAndState, copyCertificate (laws 45, 59). Bounds only. (Printed by mkcrt2.py.) The reference's copyCertificate: parts that can be appended to (laws 45, 59). (Printed by mkcrt3.py.) What a drawn certificate's variable holds (laws 45, 59). The reference's drawn words: drawWord, drawAnyWord (laws 45, 50, 55, 59). -/
import Derived.Test.YtlbcjkjoapcppaaGreatRowCertificateFormsG15
import Derived.Test.YtlbcjkjoapcppaaGreatRowCertificateFormsG18
import Derived.Test.YtlbcjkjoapcppaaGreatRowCertificateFormsG11
namespace Go.Proofs.YtlbcjkjoapcppaaGreat
open Go.RowKit
set_option maxRecDepth 10000

/-- append(v, u ..) -/
theorem wp_cat {P : Program} {α : Type} [Rp α] {o : Oper} {a : Act} {w : World} {Q : Exit → Act → World → Prop} {K : Act → World → Prop} (s x : Operand) (t : TypeId)
    (ho : o.op = .call { callee := .builtin .append, args := #[s, x], argTypes := #[t, t] })
    (B : Nat) (e : TypeId) (i : TypeInfo) (z : Value) (bytes : Nat) (ht : P.underlying t = some (.slice e)) (hi : P.info? e = some i) (hz : i.zero = some z)
    (hsize : i.size = Rp.size α) (hby : i.bytes = bytes) (hzs : z.cells.size = Rp.size α) (hsz : 0 < Rp.size α) (hbb : bytes ≤ 65536)
    (w0 : World) (v : Value) (l : List α) (fs : List (List Nat)) (hs : a.eval s = v) (hA : Acc B e w0 v l fs) (hK0 : Only [] w0 w) (hB : B ≤ w0.heap.size)
    (B2 : Nat) (e2 : TypeId) (u : Value) (ys : List α) (gs : List (List Nat)) (hx : a.eval x = u) (hU : Acc B2 e2 w u ys gs) (hone : ∀ (cs : List Value) (y : α) (f : List Nat), Rp.rep w cs y f → ∀ q ∈ cs, q.oneCell' = true)
    (hap : ∀ b ∈ gs.flatten, v.ownBlock ≠ some b) (hlen : l.length + ys.length ≤ 1073741824)
    (h : ∀ v' w', Acc B e w' v' (l ++ ys) (fs ++ gs) → Only v.ownBlock.toList w w' → (v'.ownBlock = v.ownBlock ∨ v'.ownBlock = some w.heap.size) → K (a.put o.dst v') w') : o.wp P a w K Q := by
  obtain ⟨css, hown, hcl, hre⟩ := (hA.keep hK0).own
  obtain ⟨css2, hown2, hcl2, hre2⟩ := hU.own
  have hfl := hA.fl
  have hfl2 := hU.fl
  have hgl := hU.lt
  have hbytes : (l.length + ys.length) * bytes ≤ 140737488355328 := by
    have := Nat.mul_le_mul hlen hbb; omega
  obtain ⟨A, c, hu, hA0, hsrc⟩ : ∃ A c, u = .slice A ys.length c ∧ (A = none → ys.length = 0) ∧ ∀ ad, A = some ad → ∀ j q, css2.flatten[j]? = some q → w.cell? (ad.add j) = some q := by
    have hk := hown2
    rcases hown2.2 with ⟨h1, h0⟩ | ⟨g, cp, cur, h1, hrest⟩
    · exact ⟨none, 0, by rw [h1, h0], fun _ => h0, by simp⟩
    · subst h1
      exact ⟨_, _, rfl, by simp, fun ad had j q hq => by injection had with had; subst had; exact World.ownsRow.cells hk rfl j q hq⟩
  refine wp_app w s x t ho B e i z (Rp.size α) bytes ht hi hz hsize hby hzs hsz v l.length css.flatten hs hown A ys.length c css2.flatten (by rw [hx, hu]) hown2.1 hsrc hA0 (fun q hq => ?_) (by unfold maxLen; omega) hbytes (Nat.le_trans hB hK0.size) ?_
  · obtain ⟨cs, hcs, hq⟩ := List.mem_flatten.1 hq
    obtain ⟨k, hk, rfl⟩ := List.getElem_of_mem hcs
    exact hone _ _ _ (hre2 k hk (by omega) (by omega)) q hq
  intro v' w' hO hg hb
  have hW : Only v.ownBlock.toList w w' := (Only.refl _ _).grown hg (by intro k hk _; simp [hk])
  have hlt := (hA.keep hK0).lt
  have hap' : ∀ b ∈ gs.flatten, b ∉ v.ownBlock.toList := fun b hb hm => hap b hb (by simpa using hm)
  have hfs : ∀ b ∈ fs.flatten, b ∉ v.ownBlock.toList := fun b hb hm => hA.apart b (by simpa using hm) hb
  refine h v' w' ⟨⟨css ++ css2, ?_, by simp [hcl, hcl2], fun k h1 h2 h3 => ?_⟩, by simp [hfl, hfl2], ?_⟩ hW hb
  · rw [List.length_append, List.flatten_append]; exact hO
  · by_cases hk : k < l.length
    · rw [List.getElem_append_left (by rw [hcl]; exact hk), List.getElem_append_left hk, List.getElem_append_left (by rw [hfl]; exact hk)]
      exact Rp.only (hre k (by omega) hk (by omega)) hW fun b hb => hfs b (List.mem_flatten.2 ⟨_, List.getElem_mem _, hb⟩)
    · have hk2 : k - l.length < ys.length := by rw [List.length_append] at h2; omega
      rw [List.getElem_append_right (by rw [hcl]; omega), List.getElem_append_right (by omega), List.getElem_append_right (by rw [hfl]; omega)]
      simp only [hcl, hfl]
      exact Rp.only (hre2 (k - l.length) (by omega) hk2 (by omega)) hW fun b hb => hap' b (List.mem_flatten.2 ⟨_, List.getElem_mem _, hb⟩)
  · intro g' hg' hm
    rw [List.flatten_append] at hm
    rcases hb with hb | hb
    · rw [hb] at hg'
      rcases List.mem_append.1 hm with hm | hm
      · exact hA.apart g' hg' hm
      · exact hap g' hm hg'
    · rw [hb] at hg'; injection hg' with hg'; subst hg'
      rcases List.mem_append.1 hm with hm | hm
      · exact absurd (hlt _ hm) (by omega)
      · exact absurd (hgl _ hm) (by omega)
theorem table_one (w : World) (cs : List Value) (y : Table) (f : List Nat) (h : Rp.rep w cs y f) : ∀ q ∈ cs, q.oneCell' = true := by
  obtain ⟨v1, v2, v3, f1, f2, f3, rfl, -, h1, h2, h3⟩ := h
  obtain ⟨_, _, _, _, rfl, -, -⟩ := h1.open_
  obtain ⟨_, _, _, _, rfl, -, -⟩ := h2.open_
  obtain ⟨_, _, _, _, rfl, -, -⟩ := h3.open_
  intro q hq
  simp at hq
  rcases hq with rfl | rfl | rfl <;> rfl
theorem bTabs_getD_sm (x : Puzzle) (trs : List (List Int)) : ((bTabs x trs).getD []).length ≤ 4 ∧ Sm.sm ((bTabs x trs).getD []) := by
  rcases e : bTabs x trs with _ | ts
  · exact ⟨by simp, by simp [Sm.sm]⟩
  · exact ⟨(bTabs_mem e).1, bTabs_sm e⟩
set_option maxHeartbeats 4000000 in
theorem drawTables_any (g : Nat) (fc : List Nat) (l : List UInt8) (cs : List Value) (x : Puzzle) (fp : List Nat) (w : World) (h : Src w g fc l) (hl : l.length ≤ 4096) (hx : Rp.rep w cs x fp) (hgx : g ∉ fp) :
    Calls Tryz.prog 19 #[.pointer (some ⟨g, 0, none⟩), .agg cs.toArray] w fun e w' => ∃ v, ∃ L : List Table, ∃ fs, e = .returned v ∧ Acc w.heap.size 53 w' v L fs ∧ Fresh w.heap.size w' fs.flatten ∧ L.length ≤ 4 ∧ Sm.sm L ∧ Src w' g fc l ∧ Only [g] w w' := by
  have hg := h.lt
  have hxc := hx
  obtain ⟨v2, rfl, p0, p1, h2⟩ := hx
  obtain ⟨A2, C2, _, _, rfl, -, -⟩ := h2.open_
  have hx0 : Rp.rep w [.int .i64 x.points, .string x.names, .slice A2 x.moves.length C2] x fp := hxc
  have hB0 := Blk.new w [.int .i64 x.points, .string x.names, .slice A2 x.moves.length C2] 42
  have kb : Only [] w (w.alloc (.cells #[.int .i64 x.points, .string x.names, .slice A2 x.moves.length C2] 42)) := (Only.refl _ _).alloc _
  have x0 := hB0.cell 0 rfl
  have x1 := hB0.cell 1 rfl
  have x2 := hB0.cell 2 rfl
  have hdx : ∀ b ∈ fp, b ∉ [g] := fun b hb hm => hgx (by simp at hm; subst hm; exact hb)
  have Hdx := Lib.hid hdx
  clear hdx hxc p0 p1 h2
  go_enter Tryz.func19, Tryz.ntmps19
  go_wp2
  go_region_law (first
    | (go_simp; go_at_call 47; (with_reducible refine (drawTrackedSets_any g fc l [.int .i64 x.points, .string x.names, .slice A2 x.moves.length C2] x fp _ (h.keep (by with_reducible repeat (first | exact Only.refl _ _ | assumption | refine Only.drewN ?_ _ | refine Only.drew ?_ | refine Only.alloc ?_ _ | refine Only.trans ?_ (by assumption)))) hl (Rp.keep hx0 (by with_reducible repeat (first | exact Only.refl _ _ | assumption | refine Only.drewN ?_ _ | refine Only.drew ?_ | refine Only.alloc ?_ _ | refine Only.trans ?_ (by assumption))))).mono ?_); rintro en w8 ⟨v8, L8, f8, rfl, r8, ge8, sm8, D8, K8⟩; have K78 : Only [g] (w.alloc (.cells #[.int .i64 x.points, .string x.names, .slice A2 x.moves.length C2] 42)) w8 := Only.trans (by with_reducible repeat (first | exact Only.refl _ _ | assumption | refine Only.drewN ?_ _ | refine Only.drew ?_ | refine Only.alloc ?_ _ | refine Only.trans ?_ (by assumption))) K8; have B8 := hB0.only K78 (by simp; omega); have x08 := B8.cell 0 rfl; have x18 := B8.cell 1 rfl; have x28 := B8.cell 2 rfl; have hx8 := Rp.only (Rp.keep hx0 kb) K78 Hdx.out; have R8 := Lib.hid r8; have S8 := Lib.hid sm8; clear r8 sm8 ge8)
    | (go_simp; go_at_call 46; (with_reducible refine (specBuildTables_acc [.int .i64 x.points, .string x.names, .slice A2 x.moves.length C2] x fp v8 L8 f8 _ (Rp.keep hx8 (by with_reducible repeat (first | exact Only.refl _ _ | assumption | refine Only.drewN ?_ _ | refine Only.drew ?_ | refine Only.alloc ?_ _ | refine Only.trans ?_ (by assumption)))) (Rp.keep R8.out (by with_reducible repeat (first | exact Only.refl _ _ | assumption | refine Only.drewN ?_ _ | refine Only.drew ?_ | refine Only.alloc ?_ _ | refine Only.trans ?_ (by assumption)))) S8.out).mono ?_); rintro en w9 ⟨u9, f9, rfl, hA9, hF9, K9⟩; have K89 : Only [] w8 w9 := Only.trans (by with_reducible repeat (first | exact Only.refl _ _ | assumption | refine Only.drewN ?_ _ | refine Only.drew ?_ | refine Only.alloc ?_ _ | refine Only.trans ?_ (by assumption))) K9; have B9 := (B8.keep (by with_reducible repeat (first | exact Only.refl _ _ | assumption | refine Only.drewN ?_ _ | refine Only.drew ?_ | refine Only.alloc ?_ _ | refine Only.trans ?_ (by assumption)))).only K9 (by simp); have x09 := B9.cell 0 rfl; have x19 := B9.cell 1 rfl; have x29 := B9.cell 2 rfl; have HA9 := Lib.hid hA9; have HF9 := Lib.hid hF9; clear hA9 hF9)
    | fail "no arm")
  all_goals
    go_wp2
    go_ret
    have hs : w.heap.size ≤ w8.heap.size := ((kb.weaken [g]).trans K78).size
    have hA := HA9.out
    have hF := HF9.out
    have e9 : w8.heap.size ≤ w9.heap.size := K89.size
    exact ⟨_, _, _, rfl, hA.low3 (by omega), hF.mono (by omega), (bTabs_getD_sm x L8).1, (bTabs_getD_sm x L8).2, D8.keep K89, ((kb.weaken [g]).trans K78).trans (K89.weaken [g])⟩
theorem drawState_any (g : Nat) (fc : List Nat) (l : List UInt8) (cs : List Value) (x : Puzzle) (fp : List Nat) (w : World) (h : Src w g fc l) (hl : l.length ≤ 4096) (hx : Rp.rep w cs x fp) (hgx : g ∉ fp) :
    Calls Tryz.prog 54 #[.pointer (some ⟨g, 0, none⟩), .agg cs.toArray] w fun e w' => ∃ v, ∃ p : List Int, ∃ f, e = .returned v ∧ Rd w' v p f ∧ Fresh w.heap.size w' f ∧ p.length ≤ 60 ∧ Src w' g fc l ∧ Only [g] w w' := by
  have hg := h.lt
  obtain ⟨v2, rfl, p0, p1, h2⟩ := hx
  obtain ⟨A2, C2, _, _, rfl, -, -⟩ := h2.open_
  have hB0 := Blk.new w [.int .i64 x.points, .string x.names, .slice A2 x.moves.length C2] 42
  have kb : Only [] w (w.alloc (.cells #[.int .i64 x.points, .string x.names, .slice A2 x.moves.length C2] 42)) := (Only.refl _ _).alloc _
  have x0 := hB0.cell 0 rfl
  have x2 := hB0.cell 2 rfl
  have Hs : Hid ((w.alloc (.cells #[.int .i64 x.points, .string x.names, .slice A2 x.moves.length C2] 42)).heap.size = w.heap.size + 1) := Lib.hid (by simp)
  have hne : ∀ b ∈ fp, b ≠ g := fun b hb e => hgx (e ▸ hb)
  go_enter Tryz.func54, Tryz.ntmps54
  go_wp2_with (first
    | (go_at_call 69; (with_reducible refine (drawMember_any g fc l x.points (.slice A2 x.moves.length C2) x.moves fp _ (h.keep kb) hl p0 (Rp.keep h2 kb) hne).mono ?_); rintro e w3 ⟨v3, p3, f3, rfl, r3, F3, l3, D3, K3⟩)
    | fail "no arm")
  go_ret
  exact ⟨_, _, _, rfl, r3, F3.mono (by rw [Hs.out]; omega), l3, D3, (kb.weaken [g]).trans K3⟩
/-- drawn: a puzzle and a list -/
def PSR (w : World) (g : Nat) (fc : List Nat) (l : List UInt8) (e : Ending) (w' : World) : Prop :=
  ∃ (n : Int) (nm : ByteArray) (vm : Value) (gs : List (List Int)) (fp : List Nat) (v : Value) (s : List Int) (f : List Nat), e = .returned (.tuple #[.agg #[.int .i64 n, .string nm, vm], v]) ∧ I64 n ∧ nm.size ≤ 20 ∧ Rd w' vm gs fp ∧ (∀ b ∈ fp, w.heap.size ≤ b) ∧ gs.length ≤ 9 ∧ Rd w' v s f ∧ (∀ b ∈ f, w.heap.size ≤ b) ∧ Src w' g fc l ∧ Only [g] w w'
set_option maxHeartbeats 4000000 in
theorem drawPuzzleAndState_any (g : Nat) (fc : List Nat) (l : List UInt8) (w : World) (h : Src w g fc l) (hl : l.length ≤ 4096) :
    Calls Tryz.prog 35 #[.pointer (some ⟨g, 0, none⟩)] w (PSR w g fc l) := by
  have hg := h.lt
  have hfc : ∀ b ∈ fc, b < w.heap.size := by obtain ⟨_, _, _, _, _, _, _, h4, _⟩ := h; exact fun b hb => Rp.lt h4 b hb
  have hB0 := Blk.new w [.int .i64 0, .string ⟨#[]⟩, .slice none 0 0] 42
  have kb : Only [] w (w.alloc (.cells #[.int .i64 0, .string ⟨#[]⟩, .slice none 0 0] 42)) := (Only.refl _ _).alloc _
  have Hs : Hid ((w.alloc (.cells #[.int .i64 0, .string ⟨#[]⟩, .slice none 0 0] 42)).heap.size = w.heap.size + 1) := Lib.hid (by simp)
  go_enter Tryz.func35, Tryz.ntmps35
  go_upto_region 2 with (first
    | (go_at_call 53; (with_reducible refine (drawAnyPuzzle_any g fc l _ (h.keep kb) hl).mono ?_); rintro e w1 ⟨n, nm, vm, gs, fp, rfl, hn, nl, r1, F1, l9, l30, D1, K1⟩; obtain ⟨am, cm, _, _, rfl, -, -⟩ := Rd.open_ r1; have k1 : Only [g] w w1 := (kb.weaken [g]).trans K1; have B1 := hB0.only K1 (by simp; omega))
    | fail "no arm")
  have hs1 : w.heap.size + 1 ≤ w1.heap.size := by have := K1.size; rw [Hs.out] at this; exact this
  have hge : ∀ b ∈ fp, w.heap.size + 1 ≤ b := fun b hb => by have := F1.ge b hb; rw [Hs.out] at this; exact this
  have hdx : ∀ b ∈ fp, b ∉ [g] := fun b hb hm => by have := hge b hb; simp at hm; omega
  have Hdx := Lib.hid hdx
  have Hge := Lib.hid hge
  have B2 := Blk.new w1 [.int .i64 n, .string nm, .slice am gs.length cm] 42
  have k2 : Only [] w1 (w1.alloc (.cells #[.int .i64 n, .string nm, .slice am gs.length cm] 42)) := (Only.refl _ _).alloc _
  have Z1 := B1.keep k2
  have z0 := Z1.cell 0 rfl
  have z1 := Z1.cell 1 rfl
  have z2 := Z1.cell 2 rfl
  have zf := Z1.frozen
  have x0 := B2.cell 0 rfl
  have x1 := B2.cell 1 rfl
  have x2 := B2.cell 2 rfl
  have hx2 : Rp.rep (w1.alloc (.cells #[.int .i64 n, .string nm, .slice am gs.length cm] 42)) [.int .i64 n, .string nm, .slice am gs.length cm] (⟨n, nm, gs⟩ : Puzzle) fp := Rp.keep (PzR.rep hn nl r1) k2
  have D2 := D1.keep k2
  have Hr1 := Lib.hid r1
  have hgx : g ∉ fp := fun hm => by have := hge g hm; omega
  clear hdx hge hB0 F1 K1 r1 B1
  go_region_law (first
    | (go_simp; go_at_call 54; (with_reducible refine (drawState_any g fc l [.int .i64 n, .string nm, .slice am gs.length cm] ⟨n, nm, gs⟩ fp _ (D2.keep (by with_reducible repeat (first | exact Only.refl _ _ | assumption | refine Only.drewN ?_ _ | refine Only.drew ?_ | refine Only.alloc ?_ _ | refine Only.trans ?_ (by assumption)))) hl (Rp.keep hx2 (by with_reducible repeat (first | exact Only.refl _ _ | assumption | refine Only.drewN ?_ _ | refine Only.drew ?_ | refine Only.alloc ?_ _ | refine Only.trans ?_ (by assumption)))) hgx).mono ?_); rintro en w3 ⟨v3, p3, f3, rfl, r3, F3, l3, D3, K3⟩; obtain ⟨a3, c3, rfl, -⟩ := id r3.ints; have K23 : Only [g] (w1.alloc (.cells #[.int .i64 n, .string nm, .slice am gs.length cm] 42)) w3 := Only.trans (by with_reducible repeat (first | exact Only.refl _ _ | assumption | refine Only.drewN ?_ _ | refine Only.drew ?_ | refine Only.alloc ?_ _ | refine Only.trans ?_ (by assumption))) K3; have Z3 := Z1.only K23 (by simp; omega); have z03 := Z3.cell 0 rfl; have z13 := Z3.cell 1 rfl; have z23 := Z3.cell 2 rfl; have zf3 := Z3.frozen; have B3 := B2.only K23 (by simp; omega); have x03 := B3.cell 0 rfl; have x13 := B3.cell 1 rfl; have x23 := B3.cell 2 rfl; have F3' : ∀ b ∈ f3, w.heap.size + 1 ≤ b := (fun b hb => by have := F3.ge b hb; simp at this; omega); have HF3 := Lib.hid F3'; have R3 := Lib.hid r3; clear F3 F3' r3)
    | fail "no arm")
  all_goals
    go_wp2
    have kst := only_set3 w3 w.heap.size (.int .i64 n) (.string nm) (.slice am gs.length cm)
    have Zf := Z3.set3 (.int .i64 n) (.string nm) (.slice am gs.length cm)
    have q0 := Zf.cell 0 rfl
    have q1 := Zf.cell 1 rfl
    have q2 := Zf.cell 2 rfl
    have rm := Rp.only (Rp.only (Rp.keep Hr1.out k2) K23 Hdx.out) kst (fun b hb hm => by have := Hge.out b hb; simp at hm; omega)
    have rs := Rp.only R3.out kst (fun b hb hm => by have := HF3.out b hb; simp at hm; omega)
    exact bodyPost_ret (v := .tuple #[.agg #[.int .i64 n, .string nm, .slice am gs.length cm], .slice a3 p3.length c3]) (by simp [results, Tryz.results35, go_sem, q0, q1, q2]) rfl ⟨n, nm, _, gs, fp, _, p3, f3, rfl, hn, nl, rm, fun b hb => by have := Hge.out b hb; omega, l9, rs, fun b hb => by have := HF3.out b hb; omega, D3.only kst (by simp; omega) (fun b hb hm => by have := hfc b hb; simp at hm; omega), ((k1.trans (k2.weaken [g])).trans K23).then_ kst (fun b hb hl => by simp at hb; omega)⟩
end Go.Proofs.YtlbcjkjoapcppaaGreat

namespace Go.Proofs.YtlbcjkjoapcppaaGreat
open Go.RowKit
set_option maxRecDepth 10000

theorem SeqA.kept {α : Type} [Rp α] {w w' : World} {a : Option Addr} {cap : Nat} {xs : List α} {ob : List Nat} {fps : List (List Nat)} (h : SeqA w a cap xs ob fps) (ho : Only [] w w') : SeqA w' a cap xs ob fps :=
  h.frame fun b hb => ho.block b (h.lt_all b hb) (by simp)
/-- the parts of a copied certificate, each in rows of its own -/
structure CAcc (B : Nat) (w : World) (vn vw vt : Value) (n : List Int) (ws : List OwnI) (ts : List Table) (fw ft : List (List Nat)) (B1 B2 : Nat) : Prop where
  an : AccI B 2 w vn n
  n1 : ∀ b ∈ vn.ownBlock.toList, b < B1
  aw : Acc B1 24 w vw ws fw
  fwF : Fresh B1 w fw.flatten
  w2 : ∀ b ∈ vw.ownBlock.toList ++ fw.flatten, b < B2
  at_ : Acc B2 53 w vt ts ft
  ftF : Fresh B2 w ft.flatten
  b0 : B ≤ B1
  b1 : B1 ≤ B2
section
variable {B : Nat} {w w' : World} {vn vw vt : Value} {n : List Int} {ws : List OwnI} {ts : List Table} {fw ft : List (List Nat)} {B1 B2 : Nat}
theorem CAcc.nge (h : CAcc B w vn vw vt n ws ts fw ft B1 B2) : ∀ b ∈ vn.ownBlock.toList, B ≤ b ∧ b < B1 := fun b hb => ⟨(h.an.ownlt b (by simpa using hb)).1, h.n1 b hb⟩
theorem CAcc.wge (h : CAcc B w vn vw vt n ws ts fw ft B1 B2) : ∀ b ∈ vw.ownBlock.toList ++ fw.flatten, B1 ≤ b ∧ b < B2 := fun b hb => ⟨by
  rcases List.mem_append.1 hb with hb | hb
  · exact (h.aw.ownlt b (by simpa using hb)).1
  · exact h.fwF.ge b hb, h.w2 b hb⟩
theorem CAcc.tge (h : CAcc B w vn vw vt n ws ts fw ft B1 B2) : ∀ b ∈ vt.ownBlock.toList ++ ft.flatten, B2 ≤ b := fun b hb => by
  rcases List.mem_append.1 hb with hb | hb
  · exact (h.at_.ownlt b (by simpa using hb)).1
  · exact h.ftF.ge b hb
theorem CAcc.lt (h : CAcc B w vn vw vt n ws ts fw ft B1 B2) : ∀ b ∈ vn.ownBlock.toList ++ ((vw.ownBlock.toList ++ fw.flatten) ++ (vt.ownBlock.toList ++ ft.flatten)), B ≤ b ∧ b < w.heap.size := fun b hb => by
  have h0 := h.b0; have h1 := h.b1
  rcases List.mem_append.1 hb with hb | hb
  · have := h.nge b hb; have := (h.an.ownlt b (by simpa using hb)).2; omega
  · rcases List.mem_append.1 hb with hb | hb
    · have := h.wge b hb
      rcases List.mem_append.1 hb with hb | hb
      · have := (h.aw.ownlt b (by simpa using hb)).2; omega
      · have := h.fwF.lt b hb; omega
    · have := h.tge b hb
      rcases List.mem_append.1 hb with hb | hb
      · have := (h.at_.ownlt b (by simpa using hb)).2; omega
      · have := h.ftF.lt b hb; omega
theorem CAcc.only {fp : List Nat} (h : CAcc B w vn vw vt n ws ts fw ft B1 B2) (ho : Only fp w w') (hd : ∀ b ∈ fp, b < B) : CAcc B w' vn vw vt n ws ts fw ft B1 B2 := by
  have h0 := h.b0; have h1 := h.b1
  refine ⟨h.an.only ho fun q hq hm => ?_, h.n1, h.aw.only ho (fun q hq hm => ?_) fun q hq hm => ?_, h.fwF.only ho fun q hq hm => ?_, h.w2, h.at_.only ho (fun q hq hm => ?_) fun q hq hm => ?_, h.ftF.only ho fun q hq hm => ?_, h0, h1⟩
  · have := hd q hm; have := h.nge q (by simp [hq]); omega
  · have := hd q hm; have := h.wge q (List.mem_append_right _ hq); omega
  · have := hd q hm; have := h.wge q (List.mem_append_left _ (by simp [hq])); omega
  · have := hd q hm; have := h.wge q (List.mem_append_right _ hq); omega
  · have := hd q hm; have := h.tge q (List.mem_append_right _ hq); omega
  · have := hd q hm; have := h.tge q (List.mem_append_left _ (by simp [hq])); omega
  · have := hd q hm; have := h.tge q (List.mem_append_right _ hq); omega
theorem CAcc.low {B' : Nat} (h : CAcc B w vn vw vt n ws ts fw ft B1 B2) (hb : B' ≤ B) : CAcc B' w vn vw vt n ws ts fw ft B1 B2 := ⟨h.an.low2 hb, h.n1, h.aw, h.fwF, h.w2, h.at_, h.ftF, Nat.le_trans hb h.b0, h.b1⟩
theorem CAcc.keep (h : CAcc B w vn vw vt n ws ts fw ft B1 B2) (ho : Only [] w w') : CAcc B w' vn vw vt n ws ts fw ft B1 B2 := h.only ho (by simp)
theorem CAcc.rn (h : CAcc B w vn vw vt n ws ts fw ft B1 B2) : Rd w vn n vn.ownBlock.toList := h.an.rd
theorem CAcc.rw_ (h : CAcc B w vn vw vt n ws ts fw ft B1 B2) : Rd w vw (ws.map OwnI.l) (vw.ownBlock.toList ++ fw.flatten) := (Acc.ofOwn h.aw).rd (by decide)
theorem CAcc.rt (h : CAcc B w vn vw vt n ws ts fw ft B1 B2) : Rd w vt ts (vt.ownBlock.toList ++ ft.flatten) := h.at_.rd (by decide)
theorem CAcc.rep {k : Int} (hk : I64 k) (h : CAcc B w vn vw vt n ws ts fw ft B1 B2) : Rp.rep w [.int .i64 k, vn, vw, vt] (⟨k, n, ws.map OwnI.l, ts⟩ : Certificate) (vn.ownBlock.toList ++ ((vw.ownBlock.toList ++ fw.flatten) ++ (vt.ownBlock.toList ++ ft.flatten))) :=
  ⟨vn, vw, vt, _, _, _, rfl, rfl, hk, h.rn, h.rw_, h.rt⟩
end
theorem map_own (l : List (List Int)) : (l.map OwnI.mk).map OwnI.l = l := by
  rw [List.map_map]; exact List.map_id' _
set_option maxHeartbeats 8000000 in
theorem copyCertificate_any (k : Int) (vn vw vt : Value) (n : List Int) (ws : List (List Int)) (ts : List Table) (fn fw ft : List Nat) (w : World) (hn : Rd w vn n fn) (hw : Rd w vw ws fw) (ht : Rd w vt ts ft) (sn : Sm.sm n) (sw : Sm.sm ws) (st : Sm.sm ts) :
    Calls Tryz.prog 37 #[.agg #[.int .i64 k, vn, vw, vt]] w fun e w' => ∃ vn' vw' vt' fw' ft' B1 B2, e = .returned (.agg #[.int .i64 k, vn', vw', vt']) ∧ CAcc w.heap.size w' vn' vw' vt' n (ws.map OwnI.mk) ts fw' ft' B1 B2 ∧ Only [] w w' := by
  obtain ⟨an, cn, _, _, rfl, -, -⟩ := hn.open_
  obtain ⟨aw, cw, obw, fpw, rfl, -, Iw⟩ := hw.open_
  obtain ⟨at_, ct, obt, fpt, rfl, -, It⟩ := ht.open_
  have hnl : n.length ≤ 1073741824 := by have := sn.1; omega
  have hwl := sw.1
  have hwl2 : ∀ x ∈ ws, x.length ≤ 2097152 := fun x hx => (sw.2 x hx).1
  have hB0 := Blk.new w [.int .i64 k, .slice an n.length cn, .slice aw ws.length cw, .slice at_ ts.length ct] 32
  have kb : Only [] w (w.alloc (.cells #[.int .i64 k, .slice an n.length cn, .slice aw ws.length cw, .slice at_ ts.length ct] 32)) := (Only.refl _ _).alloc _
  have kb2 : Only [] w ((w.alloc (.cells #[.int .i64 k, .slice an n.length cn, .slice aw ws.length cw, .slice at_ ts.length ct] 32)).alloc (.cells #[.int .i64 0, .slice none 0 0, .slice none 0 0, .slice none 0 0] 32)) := kb.alloc _
  have hB1 := hB0.keep ((Only.refl [] _).alloc (.cells #[.int .i64 0, .slice none 0 0, .slice none 0 0, .slice none 0 0] 32))
  have hR := Blk.new (w.alloc (.cells #[.int .i64 k, .slice an n.length cn, .slice aw ws.length cw, .slice at_ ts.length ct] 32)) [.int .i64 0, .slice none 0 0, .slice none 0 0, .slice none 0 0] 32
  have hn2 := Rp.keep hn kb2
  have Iw2 := Iw.kept kb2
  have It2 := It.kept kb2
  have Hs : Hid (((w.alloc (.cells #[.int .i64 k, .slice an n.length cn, .slice aw ws.length cw, .slice at_ ts.length ct] 32)).alloc (.cells #[.int .i64 0, .slice none 0 0, .slice none 0 0, .slice none 0 0] 32)).heap.size = w.heap.size + 2) := Lib.hid (by simp)
  have Hs1 : Hid ((w.alloc (.cells #[.int .i64 k, .slice an n.length cn, .slice aw ws.length cw, .slice at_ ts.length ct] 32)).heap.size = w.heap.size + 1) := Lib.hid (by simp)
  rw [Hs1.out] at hR
  obtain ⟨W1, hW1⟩ : ∃ W, W = ((w.alloc (.cells #[.int .i64 k, .slice an n.length cn, .slice aw ws.length cw, .slice at_ ts.length ct] 32)).alloc (.cells #[.int .i64 0, .slice none 0 0, .slice none 0 0, .slice none 0 0] 32)) := ⟨_, rfl⟩
  go_enter Tryz.func37, Tryz.ntmps37
  go_upto_region 1 with fail
  rw [← hW1] at hB1 hR hn2 Iw2 It2 Hs kb2 ⊢
  have hs1 : W1.heap.size = w.heap.size + 2 := Hs.out
  clear hB0 kb hW1 hn hw ht Iw It Hs Hs1
  have x0 := hB1.cell 0 rfl
  have x1 := hB1.cell 1 rfl
  have x2 := hB1.cell 2 rfl
  have x3 := hB1.cell 3 rfl
  have z0 := hR.cell 0 rfl
  have z1 := hR.cell 1 rfl
  have z2 := hR.cell 2 rfl
  have z3 := hR.cell 3 rfl
  have zf := hR.frozen
  have It2' := Lib.hid It2
  have Iw2' := Lib.hid Iw2
  have Hn2 := Lib.hid hn2
  clear It2 Iw2 hn2
  go_region_law (first
    | (go_simp; first
    | (go_at_call 33; (with_reducible refine (copyInts_aI (.slice an n.length cn) n _ _ (Rp.keep Hn2.out (by with_reducible repeat (first | exact Only.refl _ _ | assumption | refine Only.drewN ?_ _ | refine Only.drew ?_ | refine Only.alloc ?_ _ | refine Only.trans ?_ (by assumption)))) hnl).mono ?_); rintro en w3 ⟨v3, rfl, hA3, K3⟩; obtain ⟨a3, c3, rfl⟩ := hA3.form; have K13 : Only [] W1 w3 := Only.trans (by with_reducible repeat (first | exact Only.refl _ _ | assumption | refine Only.drewN ?_ _ | refine Only.drew ?_ | refine Only.alloc ?_ _ | refine Only.trans ?_ (by assumption))) K3; have hB3 := hB1.keep K13; have x03 := hB3.cell 0 rfl; have x13 := hB3.cell 1 rfl; have x23 := hB3.cell 2 rfl; have x33 := hB3.cell 3 rfl; have hR3 := hR.keep K13; have HA3 := Lib.hid hA3; clear hA3)
    | (go_at_call 52; (with_reducible refine (copyLists_own aw cw ws obw fpw _ (SeqA.kept Iw2'.out (by with_reducible repeat (first | exact Only.refl _ _ | assumption | refine Only.drewN ?_ _ | refine Only.drew ?_ | refine Only.alloc ?_ _ | refine Only.trans ?_ (by assumption)))) hwl hwl2).mono ?_); rintro en w4 ⟨v4, f4, rfl, hA4, hF4, K4⟩; obtain ⟨a4, n4, c4, rfl⟩ : ∃ a n c, v4 = Value.slice a n c := (let ⟨a, c, hh⟩ := hA4.form; ⟨a, _, c, hh⟩); have K34 : Only [] w3 w4 := Only.trans (by with_reducible repeat (first | exact Only.refl _ _ | assumption | refine Only.drewN ?_ _ | refine Only.drew ?_ | refine Only.alloc ?_ _ | refine Only.trans ?_ (by assumption))) K4; have hB4 := hB3.keep K34; have x04 := hB4.cell 0 rfl; have x14 := hB4.cell 1 rfl; have x24 := hB4.cell 2 rfl; have x34 := hB4.cell 3 rfl; have hR4 := hR3.keep K34; have HA4 := Lib.hid hA4; have HF4 := Lib.hid hF4; clear hA4 hF4)
    | (go_at_call 34; (with_reducible refine (copyTables_acc at_ ct ts obt fpt _ (SeqA.kept It2'.out (by with_reducible repeat (first | exact Only.refl _ _ | assumption | refine Only.drewN ?_ _ | refine Only.drew ?_ | refine Only.alloc ?_ _ | refine Only.trans ?_ (by assumption)))) st).mono ?_); rintro en w5 ⟨v5, f5, rfl, hA5, hF5, K5⟩; obtain ⟨a5, n5, c5, rfl⟩ : ∃ a n c, v5 = Value.slice a n c := (let ⟨a, c, hh⟩ := hA5.form; ⟨a, _, c, hh⟩); have K45 : Only [] w4 w5 := Only.trans (by with_reducible repeat (first | exact Only.refl _ _ | assumption | refine Only.drewN ?_ _ | refine Only.drew ?_ | refine Only.alloc ?_ _ | refine Only.trans ?_ (by assumption))) K5; have hB5 := hB4.keep K45; have x05 := hB5.cell 0 rfl; have x15 := hB5.cell 1 rfl; have x25 := hB5.cell 2 rfl; have x35 := hB5.cell 3 rfl; have hR5 := hR4.keep K45; have z05 := hR5.cell 0 rfl; have z15 := hR5.cell 1 rfl; have z25 := hR5.cell 2 rfl; have z35 := hR5.cell 3 rfl; have zf5 := hR5.frozen; have HA5 := Lib.hid hA5; have HF5 := Lib.hid hF5; clear hA5 hF5))
    | fail "no arm")
  all_goals
    go_wp2
    have hs13 : W1.heap.size ≤ w3.heap.size := K13.size
    have hs34 : w3.heap.size ≤ w4.heap.size := K34.size
    have CA0 : CAcc W1.heap.size w5 (.slice a3 n.length c3) (.slice a4 n4 c4) (.slice a5 n5 c5) n (ws.map OwnI.mk) ts f4 f5 w3.heap.size w4.heap.size :=
      ⟨(HA3.out.keep (K34.trans K45)).low2 (by first | omega | simp), fun b hb => (HA3.out.ownlt b (by simpa using hb)).2, (HA4.out.keep K45).low3 (by first | omega | simp), (HF4.out.keep K45).mono (by first | omega | simp), fun b hb => by
        rcases List.mem_append.1 hb with hb | hb
        · exact (HA4.out.ownlt b (by simpa using hb)).2
        · exact HF4.out.lt b hb, HA5.out.low3 (by first | omega | simp), HF5.out.mono (by first | omega | simp), hs13, hs34⟩
    have kst : Only [w.heap.size + 1] w5 ((((w5.setCell ⟨w.heap.size + 1, 0, none⟩ (.int .i64 k)).setCell ⟨w.heap.size + 1, 1, none⟩ (.slice a3 n.length c3)).setCell ⟨w.heap.size + 1, 2, none⟩ (.slice a4 n4 c4)).setCell ⟨w.heap.size + 1, 3, none⟩ (.slice a5 n5 c5)) := ((((Only.refl _ _).setCell (by simp) _).setCell (by simp) _).setCell (by simp) _).setCell (by simp) _
    have Zf := (((hR5.set 0 (.int .i64 k)).set 1 (.slice a3 n.length c3)).set 2 (.slice a4 n4 c4)).set 3 (.slice a5 n5 c5)
    have q0 := Zf.cell 0 rfl
    have q1 := Zf.cell 1 rfl
    have q2 := Zf.cell 2 rfl
    have q3 := Zf.cell 3 rfl
    have CA1 := (CA0.only kst (fun b hb => by simp at hb; omega)).low (B' := w.heap.size) (by omega)
    exact bodyPost_ret (v := .agg #[.int .i64 k, .slice a3 n.length c3, .slice a4 n4 c4, .slice a5 n5 c5]) (by simp [results, Tryz.results37, go_sem, q0, q1, q2, q3]) rfl ⟨_, _, _, _, _, _, _, rfl, CA1, (((kb2.trans K13).trans K34).trans K45).then_ kst (fun b hb hl => by simp at hb; omega)⟩
end Go.Proofs.YtlbcjkjoapcppaaGreat

namespace Go.Proofs.YtlbcjkjoapcppaaGreat
open Go.RowKit
set_option maxRecDepth 10000

theorem cert_form {w : World} {cs : List Value} {c : Certificate} {f : List Nat} (h : Rp.rep w cs c f) : ∃ A1 n1 C1 A2 n2 C2 A3 n3 C3, cs = [.int .i64 c.kind, .slice A1 n1 C1, .slice A2 n2 C2, .slice A3 n3 C3] := by
  obtain ⟨v1, v2, v3, f1, f2, f3, rfl, -, -, h1, h2, h3⟩ := h
  obtain ⟨A1, C1, _, _, rfl, -, -⟩ := h1.open_
  obtain ⟨A2, C2, _, _, rfl, -, -⟩ := h2.open_
  obtain ⟨A3, C3, _, _, rfl, -, -⟩ := h3.open_
  exact ⟨A1, _, C1, A2, _, C2, A3, _, C3, rfl⟩
theorem sm_no : Sm.sm noCert := ⟨⟨by decide, by simp [noCert]⟩, ⟨by decide, by simp [noCert]⟩, ⟨by decide, by simp [noCert]⟩⟩
theorem sm_un : Sm.sm unCert := ⟨⟨by decide, by simp [unCert]⟩, ⟨by decide, by simp [unCert]⟩, ⟨by decide, by simp [unCert]⟩⟩
theorem sm_ints {l : List Int} (h : l.length ≤ 2097152) : Sm.sm l := ⟨h, fun _ _ => trivial⟩
theorem sm_nil {α : Type} [Sm α] : Sm.sm ([] : List α) := ⟨by simp, by simp⟩
theorem sm_sol (l : List Int) : Sm.sm (solCert l) := by
  unfold solCert
  split
  · rename_i h
    have := validW_len h
    exact ⟨sm_nil, ⟨by simp, fun y hy => by rw [List.mem_singleton.1 hy]; exact sm_ints (by omega)⟩, sm_nil⟩
  · exact sm_no
theorem sm_lb (b : Int) {L : List Table} (hL : Sm.sm L) : Sm.sm (lbCert b L) := by
  unfold lbCert
  split
  · exact ⟨sm_ints (by simp), sm_nil, hL⟩
  · exact sm_no
theorem sm_op (x : List Int) {L : List Table} (hL : Sm.sm L) : Sm.sm (opCert x L) := by
  unfold opCert
  split
  · rename_i h
    have := validW_len h.1
    exact ⟨sm_nil, ⟨by simp, fun y hy => by rw [List.mem_singleton.1 hy]; exact sm_ints (by omega)⟩, hL⟩
  · exact sm_no
theorem tl_sol (l : List Int) : (solCert l).tables.length ≤ 500 := by unfold solCert; split <;> simp
theorem tl_lb (b : Int) {L : List Table} (h : L.length ≤ 500) : (lbCert b L).tables.length ≤ 500 := by unfold lbCert; split <;> simp [noCert, h]
theorem tl_op (x : List Int) {L : List Table} (h : L.length ≤ 500) : (opCert x L).tables.length ≤ 500 := by unfold opCert; split <;> simp [noCert, h]
/-- small: the numbers and words are few -/
def CSm (K : Nat) (c : Certificate) : Prop := Sm.sm c ∧ c.numbers.length ≤ K ∧ c.words.length ≤ K ∧ (∀ y ∈ c.words, y.length ≤ K) ∧ c.tables.length ≤ K
theorem CSm.mono {c : Certificate} (h : CSm 500 c) : CSm 1000 c := ⟨h.1, by have := h.2.1; omega, by have := h.2.2.1; omega, fun y hy => by have := h.2.2.2.1 y hy; omega, by have := h.2.2.2.2; omega⟩
theorem csm_no : CSm 500 noCert := ⟨sm_no, by simp [noCert], by simp [noCert], by simp [noCert], by simp [noCert]⟩
theorem csm_un : CSm 500 unCert := ⟨sm_un, by simp [unCert], by simp [unCert], by simp [unCert], by simp [unCert]⟩
theorem csm_sol (l : List Int) : CSm 500 (solCert l) := by
  refine ⟨sm_sol l, ?_, ?_, ?_, tl_sol l⟩ <;> unfold solCert <;> split <;> try simp
  rename_i h
  have := validW_len h
  omega
theorem csm_lb (b : Int) {L : List Table} (hL : Sm.sm L) (h : L.length ≤ 500) : CSm 500 (lbCert b L) := by
  refine ⟨sm_lb b hL, ?_, ?_, ?_, tl_lb b h⟩ <;> unfold lbCert <;> split <;> simp [noCert]
theorem csm_op (x : List Int) {L : List Table} (hL : Sm.sm L) (h : L.length ≤ 500) : CSm 500 (opCert x L) := by
  refine ⟨sm_op x hL, ?_, ?_, ?_, tl_op x h⟩ <;> unfold opCert <;> split <;> try simp [noCert]
  rename_i h
  have := validW_len h.1
  omega
theorem csm_sd (x : Puzzle) (s : List Int) : CSm 500 (sdCert x s) := by
  rcases h1 : stateB x s
  · rw [(sol_a h1).2]; exact csm_no
  · rcases h2 : reachB x s
    · rw [(sol_b h1 h2).2]; exact csm_un
    · rcases h3 : optX x s with _ | wd
      · rw [(sol_c h1 h2 h3).2]; exact csm_no
      · obtain ⟨t, h4, -, h6⟩ := sol_d h1 h2 h3
        rw [h6]; exact csm_op wd (expl_sm h4) (by simp)
theorem csm_n {k k' : Int} {n n' : List Int} {ws : List (List Int)} {ts : List Table} (h : CSm 500 ⟨k, n, ws, ts⟩) (hn : n'.length ≤ 501) : CSm 1000 ⟨k', n', ws, ts⟩ := by
  obtain ⟨⟨a1, a2, a3⟩, h2, h3, h4, h5⟩ := h
  simp only at h2 h3 h4 h5
  exact ⟨⟨sm_ints (by show n'.length ≤ 2097152; omega), a2, a3⟩, by show n'.length ≤ 1000; omega, by show ws.length ≤ 1000; omega, fun y hy => by have := h4 y hy; omega, by show ts.length ≤ 1000; omega⟩
theorem csm_w {k : Int} {n : List Int} {ws ws' : List (List Int)} {ts : List Table} (h : CSm 500 ⟨k, n, ws, ts⟩) (hw : ws'.length ≤ 501) (hy : ∀ y ∈ ws', y.length ≤ 501) : CSm 1000 ⟨k, n, ws', ts⟩ := by
  obtain ⟨⟨a1, a2, a3⟩, h2, h3, h4, h5⟩ := h
  simp only at h2 h3 h4 h5
  exact ⟨⟨a1, ⟨by show ws'.length ≤ 2097152; omega, fun y hm => sm_ints (by have := hy y hm; omega)⟩, a3⟩, by show n.length ≤ 1000; omega, by show ws'.length ≤ 1000; omega, fun y hm => by have := hy y hm; omega, by show ts.length ≤ 1000; omega⟩
theorem csm_t {k : Int} {n : List Int} {ws : List (List Int)} {ts L : List Table} (h : CSm 500 ⟨k, n, ws, ts⟩) (hL : L.length ≤ 4) (hs : Sm.sm L) : CSm 1000 ⟨k, n, ws, ts ++ L⟩ := by
  obtain ⟨⟨a1, a2, a3⟩, h2, h3, h4, h5⟩ := h
  simp only at h2 h3 h4 h5
  have hl : (ts ++ L).length ≤ 504 := by rw [List.length_append]; omega
  exact ⟨⟨a1, a2, ⟨by show (ts ++ L).length ≤ 2097152; omega, fun t ht => by
    rcases List.mem_append.1 ht with ht | ht
    · exact a3.2 t ht
    · exact hs.2 t ht⟩⟩, by show n.length ≤ 1000; omega, by show ws.length ≤ 1000; omega, fun y hm => by have := h4 y hm; omega, by show (ts ++ L).length ≤ 1000; omega⟩
section
variable {B : Nat} {V w9 : World} {vn vw vt v9 : Value} {n n' : List Int} {ws : List OwnI} {ws' : List (List Int)} {ts ts' : List Table} {fw ft : List (List Nat)} {B1 B2 : Nat} {F f9 : List Nat} {k : Int}
theorem CAcc.setN (hk : I64 k) (h : CAcc B V vn vw vt n ws ts fw ft B1 B2) (hr : Rd w9 v9 n' v9.ownBlock.toList) (hO : Only vn.ownBlock.toList V w9) (hN : v9.ownBlock = vn.ownBlock ∨ v9.ownBlock = some V.heap.size) (hB : B ≤ V.heap.size) :
    ∃ f, Rp.rep w9 [.int .i64 k, v9, vw, vt] (⟨k, n', ws.map OwnI.l, ts⟩ : Certificate) f ∧ ∀ b ∈ f, B ≤ b := by
  have h0 := h.b0; have h1 := h.b1
  refine ⟨_, ⟨v9, vw, vt, _, _, _, rfl, rfl, hk, hr, Rp.only h.rw_ hO fun b hb hm => ?_, Rp.only h.rt hO fun b hb hm => ?_⟩, fun b hb => ?_⟩
  · have := h.nge b hm; have := h.wge b hb; omega
  · have := h.nge b hm; have := h.tge b hb; omega
  · rcases List.mem_append.1 hb with hb | hb
    · have hb2 : v9.ownBlock = some b := by simpa using hb
      rcases hN with e | e
      · exact (h.nge b (by rw [← e]; exact hb)).1
      · rw [e] at hb2; injection hb2 with hb2; omega
    · rcases List.mem_append.1 hb with hb | hb
      · have := h.wge b hb; omega
      · have := h.tge b hb; omega
theorem CAcc.setW (hk : I64 k) (h : CAcc B V vn vw vt n ws ts fw ft B1 B2) (hr : Rd w9 v9 ws' f9) (hO : Only F V w9) (hF : ∀ b ∈ F, b ∈ vw.ownBlock.toList ++ fw.flatten) (h9 : ∀ b ∈ f9, B ≤ b) :
    ∃ f, Rp.rep w9 [.int .i64 k, vn, v9, vt] (⟨k, n, ws', ts⟩ : Certificate) f ∧ ∀ b ∈ f, B ≤ b := by
  have h0 := h.b0; have h1 := h.b1
  refine ⟨_, ⟨vn, v9, vt, _, _, _, rfl, rfl, hk, Rp.only h.rn hO fun b hb hm => ?_, hr, Rp.only h.rt hO fun b hb hm => ?_⟩, fun b hb => ?_⟩
  · have := h.nge b hb; have := h.wge b (hF b hm); omega
  · have := h.wge b (hF b hm); have := h.tge b hb; omega
  · rcases List.mem_append.1 hb with hb | hb
    · exact (h.nge b hb).1
    · rcases List.mem_append.1 hb with hb | hb
      · exact h9 b hb
      · have := h.tge b hb; omega
theorem CAcc.setT (hk : I64 k) (h : CAcc B V vn vw vt n ws ts fw ft B1 B2) (hr : Rd w9 v9 ts' f9) (hO : Only F V w9) (hF : ∀ b ∈ F, b ∈ vt.ownBlock.toList ++ ft.flatten) (h9 : ∀ b ∈ f9, B ≤ b) :
    ∃ f, Rp.rep w9 [.int .i64 k, vn, vw, v9] (⟨k, n, ws.map OwnI.l, ts'⟩ : Certificate) f ∧ ∀ b ∈ f, B ≤ b := by
  have h0 := h.b0; have h1 := h.b1
  refine ⟨_, ⟨vn, vw, v9, _, _, _, rfl, rfl, hk, Rp.only h.rn hO fun b hb hm => ?_, Rp.only h.rw_ hO fun b hb hm => ?_, hr⟩, fun b hb => ?_⟩
  · have := h.nge b hb; have := h.tge b (hF b hm); omega
  · have := h.wge b hb; have := h.tge b (hF b hm); omega
  · rcases List.mem_append.1 hb with hb | hb
    · exact (h.nge b hb).1
    · rcases List.mem_append.1 hb with hb | hb
      · have := h.wge b hb; omega
      · exact h9 b hb
end
theorem Blk.set4 {V : World} {b : Nat} {x0 x1 x2 x3 : Value} (h : Blk V b [x0, x1, x2, x3]) (y0 y1 y2 y3 : Value) : Blk ((((V.setCell ⟨b, 0, none⟩ y0).setCell ⟨b, 1, none⟩ y1).setCell ⟨b, 2, none⟩ y2).setCell ⟨b, 3, none⟩ y3) b [y0, y1, y2, y3] := (((h.set 0 y0).set 1 y1).set 2 y2).set 3 y3
theorem only_set4 (V : World) (b : Nat) (y0 y1 y2 y3 : Value) : Only [b] V ((((V.setCell ⟨b, 0, none⟩ y0).setCell ⟨b, 1, none⟩ y1).setCell ⟨b, 2, none⟩ y2).setCell ⟨b, 3, none⟩ y3) := ((((Only.refl _ _).setCell (by simp) _).setCell (by simp) _).setCell (by simp) _).setCell (by simp) _
/-- what stays true while a certificate is drawn: the box of the puzzle, the block of the result, the source -/
structure DCt (w : World) (g : Nat) (fc : List Nat) (l : List UInt8) (ps : List Value) (V : World) : Prop where
  bx : Blk V w.heap.size ps
  rs : Blk V (w.heap.size + 1) [.int .i64 0, .slice none 0 0, .slice none 0 0, .slice none 0 0]
  sr : Src V g fc l
  on : Only [g] w V
  sz : w.heap.size + 3 ≤ V.heap.size
/-- the source's blocks are older than the call -/
structure DCg (w : World) (g : Nat) (fc : List Nat) : Prop where
  g : g < w.heap.size
  fc : ∀ b ∈ fc, b < w.heap.size
section
variable {w : World} {g : Nat} {fc : List Nat} {l : List UInt8} {ps : List Value} {V V' : World}
theorem DCt.step (h : DCt w g fc l ps V) (hg : DCg w g fc) (ho : Only [g] V V') (hs : Src V' g fc l) : DCt w g fc l ps V' :=
  have hgl := hg.g
  ⟨h.bx.only ho (by simp; omega), h.rs.only ho (by simp; omega), hs, h.on.trans ho, Nat.le_trans h.sz ho.size⟩
theorem DCt.low {fp : List Nat} (h : DCt w g fc l ps V) (hg : DCg w g fc) (ho : Only fp V V') (hf : ∀ b ∈ fp, w.heap.size + 2 ≤ b) : DCt w g fc l ps V' := by
  have hgl := hg.g
  exact ⟨h.bx.only ho (fun hm => by have := hf _ hm; omega), h.rs.only ho (fun hm => by have := hf _ hm; omega), h.sr.only ho (fun hm => by have := hf _ hm; omega) (fun b hb hm => by have := hf b hm; have := hg.fc b hb; omega), h.on.then_ ho (fun b hb hl => by have := hf b hb; omega), Nat.le_trans h.sz ho.size⟩
theorem DCt.keep (h : DCt w g fc l ps V) (hg : DCg w g fc) (ho : Only [] V V') : DCt w g fc l ps V' := h.low hg ho (by simp)
end
/-- the variable holds a certificate -/
def DCX (K : Nat) (w : World) (V : World) : Prop :=
  ∃ (c : Certificate) (A1 : Option Addr) (n1 C1 : Nat) (A2 : Option Addr) (n2 C2 : Nat) (A3 : Option Addr) (n3 C3 : Nat) (f : List Nat), Blk V (w.heap.size + 2) [.int .i64 c.kind, .slice A1 n1 C1, .slice A2 n2 C2, .slice A3 n3 C3] ∧ Rp.rep V [.int .i64 c.kind, .slice A1 n1 C1, .slice A2 n2 C2, .slice A3 n3 C3] c f ∧ (∀ b ∈ f, w.heap.size + 3 ≤ b) ∧ CSm K c
def DCF (K : Nat) (w : World) (g : Nat) (fc : List Nat) (l : List UInt8) (ps : List Value) (V : World) : Prop := DCt w g fc l ps V ∧ DCX K w V
section
variable {w : World} {g : Nat} {fc : List Nat} {l : List UInt8} {ps : List Value} {V : World} {c : Certificate} {k : Int} {A1 A2 A3 : Option Addr} {n1 n2 n3 C1 C2 C3 : Nat} {f : List Nat} {x0 x1 x2 x3 : Value} {K : Nat}
/-- a certificate stored into the variable -/
theorem DCF.store (h : DCt w g fc l ps V) (hg : DCg w g fc) (hB : Blk V (w.heap.size + 2) [x0, x1, x2, x3]) (hr : Rp.rep V [.int .i64 c.kind, .slice A1 n1 C1, .slice A2 n2 C2, .slice A3 n3 C3] c f) (hf : ∀ b ∈ f, w.heap.size + 3 ≤ b) (hs : CSm K c) :
    DCF K w g fc l ps ((((V.setCell ⟨w.heap.size + 2, 0, none⟩ (.int .i64 c.kind)).setCell ⟨w.heap.size + 2, 1, none⟩ (.slice A1 n1 C1)).setCell ⟨w.heap.size + 2, 2, none⟩ (.slice A2 n2 C2)).setCell ⟨w.heap.size + 2, 3, none⟩ (.slice A3 n3 C3)) := by
  have kst := only_set4 V (w.heap.size + 2) (.int .i64 c.kind) (.slice A1 n1 C1) (.slice A2 n2 C2) (.slice A3 n3 C3)
  exact ⟨h.low hg kst (fun b hb => by simp at hb; omega), c, A1, n1, C1, A2, n2, C2, A3, n3, C3, f, hB.set4 _ _ _ _, Rp.only hr kst (fun b hb hm => by have := hf b hb; simp at hm; omega), hf, hs⟩
/-- one field of it stored -/
theorem DCF.fld (h : DCt w g fc l ps V) (hg : DCg w g fc) (hB : Blk V (w.heap.size + 2) [x0, x1, x2, x3]) (j : Nat) (y : Value) (he : [x0, x1, x2, x3].set j y = [.int .i64 c.kind, .slice A1 n1 C1, .slice A2 n2 C2, .slice A3 n3 C3]) (hr : Rp.rep V [.int .i64 c.kind, .slice A1 n1 C1, .slice A2 n2 C2, .slice A3 n3 C3] c f) (hf : ∀ b ∈ f, w.heap.size + 3 ≤ b) (hs : CSm K c) :
    DCF K w g fc l ps (V.setCell ⟨w.heap.size + 2, j, none⟩ y) := by
  have kst : Only [w.heap.size + 2] V (V.setCell ⟨w.heap.size + 2, j, none⟩ y) := (Only.refl _ _).setCell (by simp) _
  have hb := hB.set j y
  rw [he] at hb
  exact ⟨h.low hg kst (fun b hb => by simp at hb; omega), c, A1, n1, C1, A2, n2, C2, A3, n3, C3, f, hb, Rp.only hr kst (fun b hb hm => by have := hf b hb; simp at hm; omega), hf, hs⟩
theorem DCX.keep {V' : World} (h : DCX K w V) (hg : DCg w g fc) (ho : Only [g] V V') : DCX K w V' := by
  have hgl := hg.g
  obtain ⟨c, A1, n1, C1, A2, n2, C2, A3, n3, C3, f, hB, hr, hf, hs⟩ := h
  exact ⟨c, A1, n1, C1, A2, n2, C2, A3, n3, C3, f, hB.only ho (by simp; omega), Rp.only hr ho (fun b hb hm => by have := hf b hb; simp at hm; omega), hf, hs⟩
end
/-- after an append and its store -/
theorem DCt.fin {w : World} {g : Nat} {fc : List Nat} {l : List UInt8} {ps : List Value} {V w9 : World} {F : List Nat} {xs : List Value} (h : DCt w g fc l ps V) (hg : DCg w g fc) (hO : Only F V w9) (hF : ∀ b ∈ F, w.heap.size + 3 ≤ b) (X : Blk V (w.heap.size + 2) xs) : DCt w g fc l ps w9 ∧ Blk w9 (w.heap.size + 2) xs :=
  ⟨h.low hg hO (fun b hb => by have := hF b hb; omega), X.only hO (fun hm => by have := hF _ hm; omega)⟩
/-- a drawn certificate -/
def DCR (w : World) (g : Nat) (fc : List Nat) (l : List UInt8) (e : Ending) (w' : World) : Prop :=
  ∃ (c : Certificate) (A1 : Option Addr) (n1 C1 : Nat) (A2 : Option Addr) (n2 C2 : Nat) (A3 : Option Addr) (n3 C3 : Nat) (f : List Nat), e = .returned (.agg #[.int .i64 c.kind, .slice A1 n1 C1, .slice A2 n2 C2, .slice A3 n3 C3]) ∧ Rp.rep w' [.int .i64 c.kind, .slice A1 n1 C1, .slice A2 n2 C2, .slice A3 n3 C3] c f ∧ (∀ b ∈ f, w.heap.size ≤ b) ∧ CSm 1000 c ∧ Src w' g fc l ∧ Only [g] w w'
/-- the drawn certificate's store into the result's block -/
theorem DCR.mk {w : World} {g : Nat} {fc : List Nat} {l : List UInt8} {ps : List Value} {V : World} {c : Certificate} {A1 A2 A3 : Option Addr} {n1 n2 n3 C1 C2 C3 : Nat} {f : List Nat} (h : DCt w g fc l ps V) (hg : DCg w g fc) (hr : Rp.rep V [.int .i64 c.kind, .slice A1 n1 C1, .slice A2 n2 C2, .slice A3 n3 C3] c f) (hf : ∀ b ∈ f, w.heap.size + 3 ≤ b) (hs : CSm 1000 c) :
    DCR w g fc l (.returned (.agg #[.int .i64 c.kind, .slice A1 n1 C1, .slice A2 n2 C2, .slice A3 n3 C3])) ((((V.setCell ⟨w.heap.size + 1, 0, none⟩ (.int .i64 c.kind)).setCell ⟨w.heap.size + 1, 1, none⟩ (.slice A1 n1 C1)).setCell ⟨w.heap.size + 1, 2, none⟩ (.slice A2 n2 C2)).setCell ⟨w.heap.size + 1, 3, none⟩ (.slice A3 n3 C3)) := by
  have hgl := hg.g
  have kst := only_set4 V (w.heap.size + 1) (.int .i64 c.kind) (.slice A1 n1 C1) (.slice A2 n2 C2) (.slice A3 n3 C3)
  exact ⟨c, A1, n1, C1, A2, n2, C2, A3, n3, C3, f, rfl, Rp.only hr kst (fun b hb hm => by have := hf b hb; simp at hm; omega), fun b hb => by have := hf b hb; omega, hs, h.sr.only kst (by simp; omega) (fun b hb hm => by have := hg.fc b hb; simp at hm; omega), h.on.then_ kst (fun b hb hl => by simp at hb; omega)⟩
end Go.Proofs.YtlbcjkjoapcppaaGreat

namespace Go.Proofs.YtlbcjkjoapcppaaGreat
open Go.RowKit
set_option maxRecDepth 10000

set_option maxHeartbeats 4000000 in
theorem drawWord_any (g : Nat) (fc : List Nat) (l : List UInt8) (m : Int) (w : World) (h : Src w g fc l) (hl : l.length ≤ 4096) (hm : m ≤ 1000) :
    Calls Tryz.prog 44 #[.pointer (some ⟨g, 0, none⟩), .int .i64 m] w fun e w' => ∃ v p, e = .returned v ∧ AccI w.heap.size 2 w' v p ∧ p.length ≤ 7 ∧ Src w' g fc l ∧ Only [g] w w' := by
  obtain ⟨i0, hi, hz0, hz1, hz2⟩ := info_parts Tryz.info2
  have hg := h.lt
  have hfc : ∀ b ∈ fc, b < w.heap.size := by obtain ⟨_, _, _, _, _, _, _, h4, _⟩ := h; exact fun b hb => Rp.lt h4 b hb
  have hA0 := AccI.made w w.heap.size 2 rfl (Nat.le_refl _)
  have ho : Only [] w (w.alloc (.cells #[] 2)) := (Only.refl _ _).alloc _
  go_enter Tryz.func44, Tryz.ntmps44
  go_wp2_with (first
    | (go_at_call 45; (with_reducible refine (srcBelow_any g fc l 7 _ (h.keep ho) hl (by omega)).mono ?_); rintro e w1 ⟨k, rfl, k0, k7, D1, K1⟩)
    | fail "no arm")
  have A1 := hA0.only K1 (fun q hq hm => by
    have e : w.heap.size = q := by simpa [Value.ownBlock] using hq
    simp at hm
    omega)
  have K1' : Only [g] w w1 := (ho.weaken [g]).trans K1
  have hk7 : k ≤ 7 := by omega
  clear hA0 K1 ho k7
  go_loopw [5, 6] (fun o x wr => ∃ (k : Int) (p : List Int), 0 ≤ k ∧ x = .int .i64 k ∧ (p.length : Int) + k ≤ 7 ∧ AccI w.heap.size 2 wr o p ∧ Src wr g fc l ∧ Only [g] w wr)
    (fun _ x _ => (intOf x).toNat)
  case atStart => exact ⟨k, [], k0, rfl, by simpa using hk7, A1, D1, K1'⟩
  case round =>
    obtain ⟨W2, hnew⟩ : ∃ W, W = wr := ⟨_, rfl⟩
    subst hnew
    clear A1 D1 K1' k0 hk7
    obtain ⟨k, p, k0, rfl, hpk, hA, hD, hO⟩ := hrel
    have hsz := hO.size
    by_cases hgo : 0 < k ∧ 0 < m
    · obtain ⟨h1, h2⟩ := hgo
      have hw : IntKind.i64.wrap (k - 1) = k - 1 := by rw [IntKind.wrap_i64]; omega
      have hlen : p.length + 1 ≤ 1073741824 := by omega
      have Hown := Lib.hid (show ∀ q, u5.ownBlock = some q → q ∉ [g] from fun q hq hm => by have := hA.ownlt q hq; simp at hm; omega)
      have Hol := Lib.hid (show ∀ b ∈ u5.ownBlock.toList, w.heap.size ≤ b from fun b hb => (hA.ownlt b (by simpa using hb)).1)
      go_wp2_with (first
        | (go_at_call 45; (with_reducible refine (srcBelow_any g fc l m W2 hD hl (by omega)).mono ?_); rintro e w4 ⟨r, rfl, r0, r1, D4, K4⟩; have hr1 : r < m := (by omega); have hw1 : IntKind.i64.wrap (1 + r) = 1 + r := (by rw [IntKind.wrap_i64]; omega))
        | (go_at_call 20; (with_reducible refine (oneIn_any g fc l 2 w4 D4 hl (by omega)).mono ?_); rintro e w5 ⟨b5, rfl, D5, K5⟩; have K25 := K4.trans K5; have A5 := hA.only K25 Hown.out; have hw2 : IntKind.i64.wrap (-(1 + r)) = -(1 + r) := (by rw [IntKind.wrap_i64]; omega); have hb5 : w.heap.size ≤ w5.heap.size := Nat.le_trans hsz K25.size)
        | (at_builtin; refine wpList_pushI rfl _ _ 24 rfl w.heap.size 2 i0 _ Tryz.underlying24 hi hz0 hz1 hz2 rfl w5 _ p rfl A5 ((Only.refl _ _).alloc _) hb5 w5.heap.size 1 _ rfl (lit1 w5 _ _ rfl) ?hn hlen ?_; (case hn => (unfold I64; omega)); intro v9 w9 hA9 hO9 hP9 hN9; have kal := (Only.refl [] w5).alloc (.cells #[] 2))
        | fail "no arm")
      all_goals go_roundw
      all_goals first
        | exact ⟨k - 1, _, by omega, rfl, by rw [List.length_append, List.length_singleton]; omega, hA9, (D5.keep ((Only.refl _ _).alloc _)).only hO9 (fun hm => by have := Hol.out g hm; omega) (fun b hb hm => by have h1 := hfc b hb; have h2 := Hol.out b hm; omega), ((hO.trans K25).alloc _).then_ hO9 (fun b hb hl => by have := Hol.out b hb; omega)⟩
        | (simp [intOf]; omega)
    · have hend : ¬ (0 < k) ∨ (0 < k ∧ ¬ (0 < m)) := by omega
      clear hgo
      rcases hend with h1 | ⟨h0, h1⟩
      all_goals go_wp2
      all_goals go_ret
      all_goals exact ⟨_, rfl, p, hA, by omega, hD, hO⟩
set_option maxHeartbeats 8000000 in
theorem drawAnyWord_any (g : Nat) (fc : List Nat) (l : List UInt8) (w : World) (h : Src w g fc l) (hl : l.length ≤ 4096) :
    Calls Tryz.prog 18 #[.pointer (some ⟨g, 0, none⟩)] w fun e w' => ∃ v p, e = .returned v ∧ AccI w.heap.size 2 w' v p ∧ p.length ≤ 300 ∧ Src w' g fc l ∧ Only [g] w w' := by
  obtain ⟨i0, hi, hz0, hz1, hz2⟩ := info_parts Tryz.info2
  have hg := h.lt
  have hfc : ∀ b ∈ fc, b < w.heap.size := by obtain ⟨_, _, _, _, _, _, _, h4, _⟩ := h; exact fun b hb => Rp.lt h4 b hb
  go_enter Tryz.func18, Tryz.ntmps18
  go_wp2_with (first
    | (go_at_call 44; (with_reducible refine (drawWord_any g fc l 3 w h hl (by omega)).mono ?_); rintro e w1 ⟨v1, p, rfl, A1, p7, D1, K1⟩; have Hown := Lib.hid (show ∀ q, v1.ownBlock = some q → q ∉ [g] from fun q hq hm => by have := A1.ownlt q hq; simp at hm; omega); have Hol := Lib.hid (show ∀ b ∈ v1.ownBlock.toList, w.heap.size ≤ b from fun b hb => (A1.ownlt b (by simpa using hb)).1); have hlen : p.length + 1 ≤ 1073741824 := (by omega))
    | (go_at_call 20; (with_reducible refine (oneIn_any g fc l 12 w1 D1 hl (by omega)).mono ?_); rintro e w2 ⟨b2, rfl, D2, K2⟩)
    | (go_at_call 45; (with_reducible refine (srcBelow_any g fc l 3 w2 D2 hl (by omega)).mono ?_); rintro e w4 ⟨r, rfl, r0, r1, D4, K4⟩)
    | (go_at_call 21; (with_reducible refine (extremeInt_any g fc l w4 D4 hl).mono ?_); rintro e w5 ⟨y, rfl, hy, D5, K5⟩; have hyI := Lib.hid hy; clear hy; have K25 := K2.trans (K4.trans K5); have A5 := A1.only K25 Hown.out; have hb5 : w.heap.size ≤ w5.heap.size := Nat.le_trans K1.size K25.size)
    | (go_at_call 22; (with_reducible refine (between_rng g fc l (-9) 9 w4 D4 hl (by omega) (by omega) (by omega)).mono ?_); rintro e w5 ⟨y, rfl, y0, y1, D5, K5⟩; have hyI := Lib.hid (show I64 y by unfold I64; omega); have K25 := K2.trans (K4.trans K5); have A5 := A1.only K25 Hown.out; have hb5 : w.heap.size ≤ w5.heap.size := Nat.le_trans K1.size K25.size)
    | (at_builtin; refine wpList_pushI rfl _ _ 24 rfl w.heap.size 2 i0 _ Tryz.underlying24 hi hz0 hz1 hz2 rfl w5 _ p rfl A5 ((Only.refl _ _).alloc _) hb5 w5.heap.size 1 _ rfl (lit1 w5 _ _ rfl) hyI.out hlen ?_; intro v9 w9 hA9 hO9 hP9 hN9)
    | fail "no arm")
  all_goals try (go_ret; exact ⟨_, _, rfl, hA9, by rw [List.length_append, List.length_singleton]; omega, (D5.keep ((Only.refl _ _).alloc _)).only hO9 (fun hm => by have := Hol.out g hm; omega) (fun b hb hm => by have h1 := hfc b hb; have h2 := Hol.out b hm; omega), ((K1.trans K25).alloc _).then_ hO9 (fun b hb hl => by have := Hol.out b hb; omega)⟩)
  all_goals try (go_ret; exact ⟨_, _, rfl, A1.only K2 Hown.out, by omega, D2, K1.trans K2⟩)
  all_goals try (go_ret; exact ⟨_, _, rfl, A1.only (K2.trans K4) Hown.out, by omega, D4, K1.trans (K2.trans K4)⟩)
  obtain rfl : r = 2 := by first | assumption | omega | simp_all
  have e0 : ((2 : Int) == 0) = false := rfl
  have e1 : ((2 : Int) == 1) = false := rfl
  have e2 : ((2 : Int) == 2) = true := rfl
  simp only [e0, e1, e2]
  clear e0 e1 e2
  have A4 := A1.only (K2.trans K4) Hown.out
  have K14 := K1.trans (K2.trans K4)
  clear Hown Hol A1 hlen
  go_loopw [3] (fun o wr => ∃ (p : List Int), p.length ≤ 300 ∧ AccI w.heap.size 2 wr o p ∧ Src wr g fc l ∧ Only [g] w wr)
    (fun o _ => 300 - lenV o)
  case atStart => exact ⟨p, by omega, A4, D4, K14⟩
  case round =>
    obtain ⟨W2, hnew⟩ : ∃ W, W = wr := ⟨_, rfl⟩
    subst hnew
    clear A4 D4 K14 p7
    obtain ⟨p, hp3, hA, hD, hO⟩ := hrel
    obtain ⟨a5, c5, rfl⟩ := hA.form
    have hsz := hO.size
    have Hown := Lib.hid (show ∀ q, (Value.slice a5 p.length c5).ownBlock = some q → q ∉ [g] from fun q hq hm => by have := hA.ownlt q hq; simp at hm; omega)
    have Hol := Lib.hid (show ∀ b ∈ (Value.slice a5 p.length c5).ownBlock.toList, w.heap.size ≤ b from fun b hb => (hA.ownlt b (by simpa using hb)).1)
    have hlen : p.length + 1 ≤ 1073741824 := by omega
    go_wp2_with (first
      | (go_at_call 22; (with_reducible refine (between_rng g fc l (-1) 1 W2 hD hl (by omega) (by omega) (by omega)).mono ?_); rintro e w4 ⟨r, rfl, r0, r1, D4, K4⟩; have hw1 : IntKind.i64.wrap (200 + r) = 200 + r := (by rw [IntKind.wrap_i64]; omega))
      | (go_at_call 45; (with_reducible refine (srcBelow_any g fc l 2 w4 D4 hl (by omega)).mono ?_); rintro e w5 ⟨y, rfl, y0, y1, D5, K5⟩; have K25 := K4.trans K5; have A5 := hA.only K25 Hown.out; have hb5 : w.heap.size ≤ w5.heap.size := Nat.le_trans hsz K25.size; have hw2 : IntKind.i64.wrap (1 + y) = 1 + y := (by rw [IntKind.wrap_i64]; omega); have hyI := Lib.hid (show I64 (1 + y) by unfold I64; omega))
      | (at_builtin; refine wpList_pushI rfl _ _ 24 rfl w.heap.size 2 i0 _ Tryz.underlying24 hi hz0 hz1 hz2 rfl w5 _ p rfl A5 ((Only.refl _ _).alloc _) hb5 w5.heap.size 1 _ rfl (lit1 w5 _ _ rfl) hyI.out hlen ?_; intro v9 w9 hA9 hO9 hP9 hN9; obtain ⟨a9, c9, rfl⟩ := hA9.form; rw [List.length_append, List.length_singleton] at hA9)
      | fail "no arm")
    · refine ⟨⟨p ++ [1 + y], ?_, hA9, (D5.keep ((Only.refl _ _).alloc _)).only hO9 (fun hm => by have := Hol.out g hm; omega) (fun b hb hm => by have h1 := hfc b hb; have h2 := Hol.out b hm; omega), ((hO.trans K25).alloc _).then_ hO9 (fun b hb hl => by have := Hol.out b hb; omega)⟩, ?_⟩
      · rw [List.length_append, List.length_singleton]; omega
      · show 300 - (p.length + 1) < 300 - p.length
        omega
    · go_ret
      exact ⟨_, p, rfl, hA.only K4 Hown.out, hp3, D4, hO.trans K4⟩
end Go.Proofs.YtlbcjkjoapcppaaGreat
