/- The program's filler: a step. The program's filler at its beginning. Fill jobs in plain words: the chain of jobs, some steps one after the other. The program's filler: start. The program's filler: resume. -/
import Derived.Test.YtlcoejncdbkhcaaGreatRowRunFillG15
import Derived.Test.YtlcoejncdbkhcaaGreatRowRunFillG12
import Derived.Test.YtlcoejncdbkhcaaGreatRowRunFillG5
namespace Go.Proofs.YtlcoejncdbkhcaaGreat
open Go.RowKit
set_option maxRecDepth 10000

/-- nothing below B is written -/
def OnlyB (B : Nat) (w w' : World) : Prop := ∃ S, (∀ b ∈ S, B ≤ b) ∧ Only S w w'
theorem OnlyB.of {B : Nat} {w w' : World} (h : Only [] w w') : OnlyB B w w' := ⟨[], by simp, h⟩
theorem OnlyB.trans {B : Nat} {a b c : World} (h : OnlyB B a b) (k : OnlyB B b c) : OnlyB B a c := by
  obtain ⟨S, h1, h2⟩ := h
  obtain ⟨T, k1, k2⟩ := k
  exact ⟨S ++ T, fun z hz => by rcases List.mem_append.1 hz with hz | hz; exact h1 z hz; exact k1 z hz, (h2.mono (fun z hz _ => List.mem_append_left _ hz)).trans (k2.mono (fun z hz _ => List.mem_append_right _ hz))⟩
theorem OnlyB.then_ {B : Nat} {a b c : World} (h : OnlyB B a b) (k : Only [] b c) : OnlyB B a c := h.trans (OnlyB.of k)
theorem OnlyB.size {B : Nat} {w w' : World} (h : OnlyB B w w') : w.heap.size ≤ w'.heap.size := by obtain ⟨S, -, h⟩ := h; exact h.size
theorem OnlyB.old {B : Nat} {w0 w w' : World} (h : OnlyB B w w') (h0 : Only [] w0 w) (hB : w0.heap.size ≤ B) : Only [] w0 w' := by
  obtain ⟨S, h1, h2⟩ := h
  exact h0.then_ h2 (fun b hb hl => by have := h1 b hb; omega)
theorem OnlyB.rep {B : Nat} {w w' : World} (h : OnlyB B w w') {α : Type} [Rp α] {cs : List Value} {y : α} {fp : List Nat} (hr : Rp.rep w cs y fp) (hf : ∀ b ∈ fp, b < B) : Rp.rep w' cs y fp := by
  obtain ⟨S, h1, h2⟩ := h
  exact Rp.only hr h2 (fun b hb hm => by have := h1 b hm; have := hf b hb; omega)
theorem OnlyB.blk {B : Nat} {w w' : World} (h : OnlyB B w w') {b : Nat} {cs : List Value} (hb : Blk w b cs) (hl : b < B) : Blk w' b cs := by
  obtain ⟨S, h1, h2⟩ := h
  exact hb.only h2 (fun hm => by have := h1 b hm; omega)
theorem Fil.keep {x : Puzzle} {B g : Nat} {w w' : World} {j : FillJob} (h : Fil x B g w j) (ho : Only [] w w') : Fil x B g w' j := by
  obtain ⟨M, v1, vm, f1, fm, ex, u2, u3, fs, h⟩ := h
  exact ⟨M, v1, vm, f1, fm, ex, u2, u3, fs, h.keep ho⟩
set_option maxHeartbeats 4000000 in
theorem step_any (x : Puzzle) {B g : Nat} (tr : List Int) (ps : List (List Int)) (ds : List Int) (n : Nat) (lg : ByteArray) (sy : Int) (w : World) (h : Fil x B g w ⟨⟨tr, ps, ds⟩, (n : Int), lg, sy⟩) (hg : GoF x ⟨⟨tr, ps, ds⟩, (n : Int), lg, sy⟩ n) :
    Calls Tryz.prog 61 #[.pointer (some ⟨g, 0, none⟩)] w fun e w' => e = .returned (.bool (stepF x ⟨⟨tr, ps, ds⟩, (n : Int), lg, sy⟩).2) ∧ Fil x B g w' (stepF x ⟨⟨tr, ps, ds⟩, (n : Int), lg, sy⟩).1 ∧ OnlyB B w w' := by
  have hF := h
  obtain ⟨M, v1, vm, f1, fm, ex, u2, u3, fs, hL⟩ := h
  have hL0 : FL B g M v1 vm (.int .i64 (n : Int)) (.string lg) (.int .i64 sy) tr ((ltrs x.moves.length).map (mv x.moves)) f1 fm ex ps ps ds w u2 u3 fs := hL
  clear hL
  have hle : ps.length ≤ 3000 := hg.le
  have hln : ds.length = ps.length := hg.ln
  have hlg : lg.size ≤ 2000000 := hg.lg
  have hln' : n ≤ ps.length := hg.lt
  have HG := Lib.hid hg
  have Hln := Lib.hid hln
  clear hg hln
  obtain ⟨st, hst⟩ : ∃ st, st = stepF x ⟨⟨tr, ps, ds⟩, (n : Int), lg, sy⟩ := ⟨_, rfl⟩
  rw [← hst]
  by_cases hd : n = ps.length
  · have he := hst.trans (stepF_done (x := x) (j := ⟨⟨tr, ps, ds⟩, (n : Int), lg, sy⟩) (by show (n : Int) = (ps.length : Int); omega))
    have HE := Lib.hid he
    have Hd := Lib.hid (show decide (n = ps.length) = true from decide_eq_true hd)
    clear he hst hd
    go_enter Tryz.func61, Tryz.ntmps61
    go_wp2_with (first
      | (go_at_call 108; (with_reducible refine (isDone_any _ (hL0.keep (by with_reducible repeat (first | exact Only.refl _ _ | assumption | refine Only.drewN ?_ _ | refine Only.drew ?_ | refine Only.alloc ?_ _ | refine Only.setCell ?_ (by intro hh; exfalso; simp at hh; try omega) _ | refine Only.trans ?_ (by assumption))))).mono ?_); rintro e w1 ⟨he, t1⟩; rw [Hd.out] at he; subst he)
      | fail "no arm")
    have K1 : Only [] w w1 := (by with_reducible repeat (first | exact Only.refl _ _ | assumption | refine Only.drewN ?_ _ | refine Only.drew ?_ | refine Only.alloc ?_ _ | refine Only.setCell ?_ (by intro hh; exfalso; simp at hh; try omega) _ | refine Only.trans ?_ (by assumption)))
    go_ret
    exact ⟨ret_bool (by rw [HE.out]), by rw [HE.out]; exact hF.keep K1, OnlyB.of K1⟩
  · have Hd := Lib.hid (show decide (n = ps.length) = false from decide_eq_false hd)
    have hlt : n < ps.length := by omega
    have hnx : ((⟨⟨tr, ps, ds⟩, (n : Int), lg, sy⟩ : FillJob)).next ≠ ((⟨⟨tr, ps, ds⟩, (n : Int), lg, sy⟩ : FillJob)).table.patterns.length := by show (n : Int) ≠ (ps.length : Int); omega
    obtain ⟨a, ha⟩ : ∃ a, a = addL x ps (ps.getD n []) (ltrs x.moves.length) [] := ⟨_, rfl⟩
    have hex : expandF x ⟨⟨tr, ps, ds⟩, (n : Int), lg, sy⟩ = ⟨⟨tr, ps ++ a, ds ++ List.replicate a.length (ds.getD n 0 + 1)⟩, (n : Int) + 1, lg ++ recF (n : Int) a, sy⟩ := by
      unfold expandF newF
      simp only [Int.toNat_natCast]
      rw [← ha]
    obtain ⟨rec, hrec⟩ : ∃ rec, rec = recF (n : Int) a := ⟨_, rfl⟩
    rw [← hrec] at hex
    have hpq : patB x.points tr.length (ps.getD n []) = true := by rw [getD_get hlt]; exact HG.out.ps _ (List.getElem_mem hlt)
    have hap : ∀ z ∈ a, patB x.points tr.length z = true := fun z hz => by
      rw [ha] at hz
      exact addL_pat HG.out.vp hpq (ltrs x.moves.length) [] (fun y hy => hy) (by simp) z hz
    have htl : tr.length ≤ 20 := by
      have h1 := (trackB_iff.1 HG.out.tr).2.len
      have h2 := (validPz_facts HG.out.vp).2.1
      simp only at h1
      omega
    have har : ∀ z ∈ a, z.length ≤ 20 := fun z hz => by have := (patB_iff.1 (hap z hz)).1; omega
    have hal : a.length ≤ 1000 := by
      have h1 := (addL_pre x ps (ps.getD n []) (ltrs x.moves.length) []).2
      have h2 := (validPz_facts HG.out.vp).2.2.1
      rw [ha]
      rw [ltrs_len] at h1
      simp only [List.length_nil] at h1
      omega
    have hrs : rec.size ≤ 100000 := by rw [hrec, recF_size]; have := flatten_len har; omega
    have hwz : IntKind.i64.wrap ((lg.size : Int) + (rec.size : Int)) = (lg.size : Int) + (rec.size : Int) := by rw [IntKind.wrap_i64]; omega
    have HA := Lib.hid ha
    have Hrec := Lib.hid hrec
    have Hex := Lib.hid hex
    have Har := Lib.hid har
    clear ha hrec hex hap har hd hpq
    have HcX := Lib.hid (fun (W : World) (hh : Only [] w W) => expansion_any x W (hL0.keep hh) HG.out.vp HG.out.tr hlt hle HG.out.ps)
    have y4 := hL0.blk.cell 4 rfl
    by_cases hlong : 60000 < lg.size + rec.size
    · have he := hst.trans (stepF_long (x := x) hnx (by rw [Hex.out]; show 60000 < (lg ++ rec).size; rw [ByteArray.size_append]; exact hlong))
      have HE := Lib.hid he
      have hgt : (60000 : Int) < (lg.size : Int) + (rec.size : Int) := by omega
      clear he hst hlong
      go_enter Tryz.func61, Tryz.ntmps61
      go_wp2_with (first
        | (go_at_call 108; (with_reducible refine (isDone_any _ (hL0.keep (by with_reducible repeat (first | exact Only.refl _ _ | assumption | refine Only.drewN ?_ _ | refine Only.drew ?_ | refine Only.alloc ?_ _ | refine Only.setCell ?_ (by intro hh; exfalso; simp at hh; try omega) _ | refine Only.trans ?_ (by assumption))))).mono ?_); rintro e w1 ⟨he, t1⟩; rw [Hd.out] at he; subst he; have y41 := t1.cell (by simp) y4)
        | (go_at_call 109; (with_reducible refine (HcX.out _ (by with_reducible repeat (first | exact Only.refl _ _ | assumption | refine Only.drewN ?_ _ | refine Only.drew ?_ | refine Only.alloc ?_ _ | refine Only.setCell ?_ (by intro hh; exfalso; simp at hh; try omega) _ | refine Only.trans ?_ (by assumption)))).mono ?_); rintro e w2 ⟨v, fa, he, hA, hF2, t2⟩; rw [← HA.out, ← Hrec.out] at he; subst he; obtain ⟨Aa, Ca, rfl⟩ := hA.form; have y42 := t2.cell (by simp) y41)
        | fail "no arm")
      have K1 : Only [] w w2 := (by with_reducible repeat (first | exact Only.refl _ _ | assumption | refine Only.drewN ?_ _ | refine Only.drew ?_ | refine Only.alloc ?_ _ | refine Only.setCell ?_ (by intro hh; exfalso; simp at hh; try omega) _ | refine Only.trans ?_ (by assumption)))
      go_ret
      exact ⟨ret_bool (by rw [HE.out]), by rw [HE.out]; exact hF.keep K1, OnlyB.of K1⟩
    · have he := hst.trans (stepF_go (x := x) hnx (by rw [Hex.out]; show ¬ 60000 < (lg ++ rec).size; rw [ByteArray.size_append]; exact hlong))
      rw [Hex.out] at he
      have HE := Lib.hid he
      have hgt : ¬ ((60000 : Int) < (lg.size : Int) + (rec.size : Int)) := by omega
      clear he hst hlong
      go_enter Tryz.func61, Tryz.ntmps61
      go_upto_region 6 with (first
        | (go_at_call 108; (with_reducible refine (isDone_any _ (hL0.keep (by with_reducible repeat (first | exact Only.refl _ _ | assumption | refine Only.drewN ?_ _ | refine Only.drew ?_ | refine Only.alloc ?_ _ | refine Only.setCell ?_ (by intro hh; exfalso; simp at hh; try omega) _ | refine Only.trans ?_ (by assumption))))).mono ?_); rintro e w1 ⟨he, t1⟩; rw [Hd.out] at he; subst he; have k1 : Only [] w w1 := (by with_reducible repeat (first | exact Only.refl _ _ | assumption | refine Only.drewN ?_ _ | refine Only.drew ?_ | refine Only.alloc ?_ _ | refine Only.setCell ?_ (by intro hh; exfalso; simp at hh; try omega) _ | refine Only.trans ?_ (by assumption))); have y41 := t1.cell (by simp) y4)
        | (go_at_call 109; (with_reducible refine (HcX.out _ (by with_reducible repeat (first | exact Only.refl _ _ | assumption | refine Only.drewN ?_ _ | refine Only.drew ?_ | refine Only.alloc ?_ _ | refine Only.setCell ?_ (by intro hh; exfalso; simp at hh; try omega) _ | refine Only.trans ?_ (by assumption)))).mono ?_); rintro e w2 ⟨v, fa, he, hA, hF2, t2⟩; rw [← HA.out, ← Hrec.out] at he; rw [← HA.out] at hA; subst he; have k2 : Only [] w w2 := (by with_reducible repeat (first | exact Only.refl _ _ | assumption | refine Only.drewN ?_ _ | refine Only.drew ?_ | refine Only.alloc ?_ _ | refine Only.setCell ?_ (by intro hh; exfalso; simp at hh; try omega) _ | refine Only.trans ?_ (by assumption))); have hAo := hA.own; have hAf := hA.fl; obtain ⟨css, ho, hcl, hr⟩ := hAo; obtain ⟨Aa, Ca, rfl, -, hS⟩ := own_seq (xs := a) (fps := fa) ho (by decide) hcl hAf hr; have y42 := t2.cell (by simp) y41)
        | fail "no arm")
      have hsz := k1.size
      have hf9 : ∀ b ∈ (Value.slice Aa a.length Ca).ownBlock.toList ++ fa.flatten, w.heap.size ≤ b ∧ b < w2.heap.size := fun b hb => by
        have h1 := (hA.fresh hF2).ge b hb
        have h2 := (hA.fresh hF2).lt b hb
        (try simp at h1)
        omega
      have L2 := hL0.hold k2 hf9
      have hFA : Fresh B w2 ((f1 ++ fs.flatten) ++ fa.flatten) := Fresh.append (hL0.fr.keep k2) (hF2.mono (show w.heap.size ≤ _ by (try simp); omega)) hL0.sz (fun b hb => hL0.fr.lt b hb)
      have hnd : n < ds.length := by have := Hln.out; omega
      have hd3 : ds.length ≤ 3000 := by have := Hln.out; omega
      have hca := append_any (rec := rec) w2 L2 hnd hle hd3 HG.out.ds Aa Ca a _ fa hS (fun b hb => List.mem_append_right _ hb) hFA hal Har.out hlg hrs
      have Hca := Lib.hid hca
      have hge2 : ∀ b ∈ (flF g M u2 u3).flatten, B ≤ b := fun b hb => by
        obtain ⟨c, hc, hb⟩ := flF_mem hb
        exact (L2.fam.rng c hc b hb).1
      clear hca hA hF2 hS ho hcl hr hFA hf9 L2
      go_wp2_with (first
        | (go_at_call 110; (with_reducible refine (Hca.out).mono ?_); rintro e w3 ⟨he, hFL, t3⟩; subst he)
        | fail "no arm")
      go_ret
      obtain ⟨u2', u3', hFL⟩ := hFL
      exact ⟨ret_bool (by rw [HE.out]), by rw [HE.out]; exact ⟨_, _, _, _, _, _, _, _, _, hFL⟩, (OnlyB.of k2).trans ⟨_, hge2, t3⟩⟩
end Go.Proofs.YtlcoejncdbkhcaaGreat

namespace Go.Proofs.YtlcoejncdbkhcaaGreat
open Go.RowKit
set_option maxRecDepth 10000

set_option maxHeartbeats 4000000 in
theorem newFiller_any (cs : List Value) (x : Puzzle) (fp : List Nat) (v : Value) (tr : List Int) (ft : List Nat) (w : World) (h : Rp.rep w cs x fp) (hv : Rd w v tr ft) (hx : validPz x = true) (htr : trackB x.points tr = true) :
    Calls Tryz.prog 154 #[.agg cs.toArray, v] w fun e w' => ∃ g, e = .returned (.pointer (some ⟨g, 0, none⟩)) ∧ Fil x w.heap.size g w' (startF tr) ∧ Only [] w w' := by
  have hh := h
  obtain ⟨v2, rfl, p0, p1, h2⟩ := h
  obtain ⟨A2, C2, _, _, rfl, -, -⟩ := h2.open_
  obtain ⟨av, cv, rfl, Iv⟩ := hv.ints
  obtain ⟨g1, g2, g3, g4⟩ := validPz_facts hx
  have htl : tr.length ≤ 20 := by have := (trackB_iff.1 htr).2.len; omega
  have htl2 : tr.length ≤ 1000 := by omega
  clear p0 p1
  obtain ⟨ls, hls⟩ : ∃ ls, ls = ltrs x.moves.length := ⟨_, rfl⟩
  have hll : ls.length ≤ 1000 := by rw [hls, ltrs_len]; omega
  have Hls := Lib.hid hls
  have hml : x.moves.length ≤ 1000 := by omega
  have hmv : ∀ g ∈ x.moves, PM.IsP g ∧ g.length ≤ 1000 := fun g hg => by have := g4 g hg; have := (permB_iff.1 this.2); exact ⟨this.2, by omega⟩
  have Hmv := Lib.hid hmv
  clear hls hmv
  obtain ⟨iL, hiL, hL0, hL1, hL2⟩ := info_parts Tryz.info22
  have k0 : Only [] w (w.alloc (.cells #[.int .i64 x.points, .string x.names, .slice A2 x.moves.length C2] 37)) := (Only.refl _ _).alloc _
  have X0 : Blk (w.alloc (.cells #[.int .i64 x.points, .string x.names, .slice A2 x.moves.length C2] 37)) w.heap.size [.int .i64 x.points, .string x.names, .slice A2 x.moves.length C2] := Blk.new w _ _
  have hM := MpB.made (w.alloc (.cells #[.int .i64 x.points, .string x.names, .slice A2 x.moves.length C2] 37)) (M := w.heap.size + 1) (by simp)
  have kM : Only [] w ((w.alloc (.cells #[.int .i64 x.points, .string x.names, .slice A2 x.moves.length C2] 37)).alloc (.map #[] 0)) := k0.alloc _
  have X1 := X0.keep ((Only.refl [] _).alloc (.map #[] 0))
  have hkl : (kB tr).size ≤ maxLen := by rw [kB_size]; unfold maxLen; omega
  have hmm := @run_makeMap Tryz.prog
  go_enter Tryz.func154, Tryz.ntmps154
  go_upto_region 2 with (first
    | (go_at_call 158; (with_reducible refine (stateKey_rd _ tr _ _ (Rp.keep hv (by with_reducible repeat (first | exact Only.refl _ _ | assumption | refine Only.drewN ?_ _ | refine Only.drew ?_ | refine Only.alloc ?_ _ | refine Only.setCell ?_ (by intro hh; exfalso; simp at hh; try omega) _ | refine Only.trans ?_ (by assumption)))) htl2).mono ?_); rintro e w2 ⟨rfl, t2⟩; obtain ⟨w3, hrun3, hM3, hO3⟩ := (hM.keep t2).run_put hkl true (by unfold maxLen; omega))
    | fail "no arm")
  have t2s := t2.size
  simp at t2s
  have t3s := hO3.size
  have X3 := (X1.keep t2).only hO3 (by simp)
  have K3 : Only [] w w3 := (kM.trans t2).then_ hO3 (by intro b hb hl; simp at hb; omega)
  have hM3' : MpB w3 (w.heap.size + 1) [tr].length (metB [tr]) := hM3.congr fun s => by rw [show (if s = kB tr then true else false) = (if s = kB tr then true else metB [] s) from rfl, metB_snoc, List.nil_append]
  clear hM hM3 hO3 hrun3 X0 X1 hmm t2
  have kg : Only [] w3 (w3.alloc (.cells #[.slice none 0 0, .slice none 0 0, .slice none 0 0, .int .i64 0, .string ⟨#[]⟩, .int .i64 0, .slice none 0 0, .map (some (w.heap.size + 1))] 88)) := (Only.refl _ _).alloc _
  have G0 : Blk (w3.alloc (.cells #[.slice none 0 0, .slice none 0 0, .slice none 0 0, .int .i64 0, .string ⟨#[]⟩, .int .i64 0, .slice none 0 0, .map (some (w.heap.size + 1))] 88)) w3.heap.size [.slice none 0 0, .slice none 0 0, .slice none 0 0, .int .i64 0, .string ⟨#[]⟩, .int .i64 0, .slice none 0 0, .map (some (w.heap.size + 1))] := Blk.new w3 _ _
  go_wp2_with fail
  with_reducible refine (Clone_rd _ tr _ _ (Rp.keep hv (K3.trans kg)) (by omega)).mono ?_
  rintro e w4 ⟨u4, f4, rfl, r4, F4, t4⟩
  obtain ⟨a4, c4, rfl, I4⟩ := r4.ints
  go_wp2_with fail
  with_reducible refine (Clone_rd _ tr _ _ (Rp.keep hv ((K3.trans kg).trans t4)) (by omega)).mono ?_
  rintro e w5 ⟨u5, f5, rfl, r5, F5, t5⟩
  obtain ⟨a5, c5, rfl, I5⟩ := r5.ints
  have kl1 : Only [] w5 (w5.alloc (.cells #[.slice a5 tr.length c5] 25)) := (Only.refl _ _).alloc _
  have kl2 : Only [] (w5.alloc (.cells #[.slice a5 tr.length c5] 25)) ((w5.alloc (.cells #[.slice a5 tr.length c5] 25)).alloc (.cells #[.int .i64 0] 2)) := (Only.refl _ _).alloc _
  have kl := kl1.trans kl2
  have hg4 : w3.heap.size < w4.heap.size := by have := t4.size; simp at this; omega
  have hg5 := t5.size
  have h34 : ∀ b ∈ f4, w3.heap.size + 1 ≤ b ∧ b < w4.heap.size := fun b hb => ⟨by have := F4.ge b hb; simpa using this, F4.lt b hb⟩
  have h45 : ∀ b ∈ f5, w4.heap.size ≤ b ∧ b < w5.heap.size := fun b hb => ⟨F5.ge b hb, F5.lt b hb⟩
  have hA6 : Acc w.heap.size 25 ((w5.alloc (.cells #[.slice a5 tr.length c5] 25)).alloc (.cells #[.int .i64 0] 2)) (.slice (some ⟨w5.heap.size, 0, none⟩) 1 1) [tr] [f5] := (Acc.one w.heap.size 25 (cs := [.slice a5 tr.length c5]) I5.rd rfl (by have := K3.size; omega)).keep kl2
  have hD6 : AccI w.heap.size 2 ((w5.alloc (.cells #[.slice a5 tr.length c5] 25)).alloc (.cells #[.int .i64 0] 2)) (.slice (some ⟨w5.heap.size + 1, 0, none⟩) 1 1) [0] := AccI.one (by unfold I64; omega) (w5.alloc (.cells #[.slice a5 tr.length c5] 25)) w.heap.size 2 (g := w5.heap.size + 1) (by simp) (by have := K3.size; omega)
  have hM6 : MpB ((w5.alloc (.cells #[.slice a5 tr.length c5] 25)).alloc (.cells #[.int .i64 0] 2)) (w.heap.size + 1) [tr].length (metB [tr]) := ((((hM3'.keep kg).keep t4).keep t5).keep kl)
  have r46 : Rd ((w5.alloc (.cells #[.slice a5 tr.length c5] 25)).alloc (.cells #[.int .i64 0] 2)) (.slice a4 tr.length c4) tr f4 := Rp.keep (Rp.keep I4.rd t5) kl
  have F46 := (F4.keep t5).keep kl
  have F56 := F5.keep kl
  have G6 := ((G0.keep t4).keep t5).keep kl
  have X6 := (((X3.keep kg).keep t4).keep t5).keep kl
  have K6 : Only [] w ((w5.alloc (.cells #[.slice a5 tr.length c5] 25)).alloc (.cells #[.int .i64 0] 2)) := (((K3.trans kg).trans t4).trans t5).trans kl
  clear kl kl1 kl2 G0 X3 hM3' t4 t5 I4 I5 F4 F5
  have e0 := G6.cell 0 rfl
  have e1 := G6.cell 1 rfl
  have e2 := G6.cell 2 rfl
  have q0 := G6.frozen 0
  have q1 := G6.frozen 1
  have q2 := G6.frozen 2
  have G7 := ((G6.set 0 (.slice a4 tr.length c4)).set 1 (.slice (some ⟨w5.heap.size, 0, none⟩) 1 1)).set 2 (.slice (some ⟨w5.heap.size + 1, 0, none⟩) 1 1)
  simp only [List.set] at G7
  have ks : Only [w3.heap.size] ((w5.alloc (.cells #[.slice a5 tr.length c5] 25)).alloc (.cells #[.int .i64 0] 2)) (((((w5.alloc (.cells #[.slice a5 tr.length c5] 25)).alloc (.cells #[.int .i64 0] 2)).setCell ⟨w3.heap.size, 0, none⟩ (.slice a4 tr.length c4)).setCell ⟨w3.heap.size, 1, none⟩ (.slice (some ⟨w5.heap.size, 0, none⟩) 1 1)).setCell ⟨w3.heap.size, 2, none⟩ (.slice (some ⟨w5.heap.size + 1, 0, none⟩) 1 1)) := (((Only.refl _ _).setCell (by simp) _).setCell (by simp) _).setCell (by simp) _
  have hgw : w.heap.size + 2 ≤ w3.heap.size := by omega
  have X7 := X6.only ks (by simp; omega)
  have x72 := X7.cell 2 rfl
  go_upto_region 3 with fail
  obtain ⟨W7, hW7⟩ : ∃ W7, W7 = (((((w5.alloc (.cells #[.slice a5 tr.length c5] 25)).alloc (.cells #[.int .i64 0] 2)).setCell ⟨w3.heap.size, 0, none⟩ (.slice a4 tr.length c4)).setCell ⟨w3.heap.size, 1, none⟩ (.slice (some ⟨w5.heap.size, 0, none⟩) 1 1)).setCell ⟨w3.heap.size, 2, none⟩ (.slice (some ⟨w5.heap.size + 1, 0, none⟩) 1 1)) := ⟨_, rfl⟩
  have hs7 : W7.heap.size = w5.heap.size + 2 := by rw [hW7]; simp
  have hng : ∀ b : Nat, b ≠ w3.heap.size → b ∉ [w3.heap.size] := fun b hb hm => hb (by simpa using hm)
  have hA7 := hA6.only ks (fun b hb => hng b (by have := h45 b (by simpa using hb); omega)) (fun q hq => hng q (by simp [Value.ownBlock] at hq; omega))
  have hD7 := hD6.only ks (fun q hq => hng q (by simp [Value.ownBlock] at hq; omega))
  have hM7 := hM6.only ks (hng _ (by omega))
  have r47 := Rp.only r46 ks (fun b hb => hng b (by have := h34 b hb; omega))
  have F47 := F46.only ks (fun b hb => hng b (by have := h34 b hb; omega))
  have F57 := F56.only ks (fun b hb => hng b (by have := h45 b hb; omega))
  have K7 : Only [] w (((((w5.alloc (.cells #[.slice a5 tr.length c5] 25)).alloc (.cells #[.int .i64 0] 2)).setCell ⟨w3.heap.size, 0, none⟩ (.slice a4 tr.length c4)).setCell ⟨w3.heap.size, 1, none⟩ (.slice (some ⟨w5.heap.size, 0, none⟩) 1 1)).setCell ⟨w3.heap.size, 2, none⟩ (.slice (some ⟨w5.heap.size + 1, 0, none⟩) 1 1)) := K6.then_ ks (fun b hb hl => by simp at hb; omega)
  rw [← hW7] at hA7 hD7 hM7 r47 F47 F57 G7 X7 x72 K7
  rw [← hW7]
  clear hW7 ks G6 X6 K6 hA6 hD6 hM6 r46 F46 F56 e0 e1 e2 q0 q1 q2
  go_wp2_with (first
    | (go_at_call 202; (with_reducible refine (letters_any x.moves.length _ hml).mono ?_); rintro e w8 ⟨u8, f8, rfl, r8, F8, t8⟩; rw [← Hls.out] at r8; obtain ⟨a8, c8, rfl, I8⟩ := r8.ints)
    | fail "no arm")
  have K8 : Only [] w w8 := K7.trans t8
  have G8 := G7.keep t8
  have X8 := X7.keep t8
  have hs8 := t8.size
  have hA8 := hA7.keep t8
  have hD8 := hD7.keep t8
  have hM8 := hM7.keep t8
  have r48 := Rp.keep r47 t8
  have F48 := F47.keep t8
  have F58 := F57.keep t8
  clear x72 hA7 hD7 hM7 r47 F47 F57 G7 X7 r8
  go_loopw [30] (fun i wr => ∃ (j : Nat) (vm : Value) (gs : List (List Nat)), j ≤ ls.length ∧ i = .int .i64 j ∧ Blk wr w3.heap.size [.slice a4 tr.length c4, .slice (some ⟨w5.heap.size, 0, none⟩) 1 1, .slice (some ⟨w5.heap.size + 1, 0, none⟩) 1 1, .int .i64 0, .string ⟨#[]⟩, .int .i64 0, vm, .map (some (w.heap.size + 1))] ∧ Acc w8.heap.size 25 wr vm ((ls.take j).map (mv x.moves)) gs ∧ (∀ b ∈ gs.flatten, b < w.heap.size ∨ w8.heap.size ≤ b) ∧ Only [w3.heap.size] w8 wr)
    (fun i _ => ls.length - (intOf i).toNat)
  case atStart => exact ⟨0, .slice none 0 0, [], Nat.zero_le _, rfl, G8, Acc.nil _ _ _, by simp, Only.refl _ _⟩
  case round =>
    obtain ⟨W2, hnew⟩ : ∃ W, W = wr := ⟨_, rfl⟩
    subst hnew
    obtain ⟨j, vm, gs, hj, rfl, hG, hA, hgs, hK⟩ := hrel
    obtain ⟨Pm, Qm, rfl⟩ := hA.form
    have hKW : Only [] w W2 := K8.then_ hK (fun b hb hl => by simp at hb; omega)
    have hsW := hK.size
    by_cases hlt : j < ls.length
    · obtain ⟨b8, o8, rfl, hf8, hc8⟩ := I8.at_ j hlt
      have hb8 : b8 ∉ [w3.heap.size] := by
        have h1 := F8.ge b8 (by rw [hf8]; simp)
        simp; omega
      have hc := hK.cell (p := ⟨b8, o8 + j, none⟩) hb8 hc8
      have hX := X8.only hK (by simp; omega)
      have x2 := hX.cell 2 rfl
      have y6 := hG.cell 6 rfl
      have hla : ls[j] ∈ ltrs x.moves.length := by rw [← Hls.out]; exact List.getElem_mem hlt
      have Hla := Lib.hid hla
      have hr2 := Rp.keep h2 hKW
      have hsn : (ls.take (j + 1)).map (mv x.moves) = (ls.take j).map (mv x.moves) ++ [mv x.moves ls[j]] := by rw [take_succ_get ls j hlt, List.map_append]; rfl
      have Hsn := Lib.hid hsn
      have hml2 : ((ls.take j).map (mv x.moves)).length + 1 ≤ 1073741824 := by simp; omega
      obtain ⟨ml, hmle⟩ : ∃ ml, ml = (ls.take j).map (mv x.moves) := ⟨_, rfl⟩
      rw [← hmle] at hA hG y6 hml2
      have Hmle := Lib.hid hmle
      have hjl : (j : Int) < (ls.length : Int) := by omega
      have hj0 : (0 : Int) ≤ (j : Int) := by omega
      have hHA := Lib.hid hA
      have hHG := Lib.hid hG
      clear hla hsn hmle hG hA
      go_upto_region 6 with fail
      go_region_law (first
        | (go_simp; go_at_call 203; (with_reducible refine (letterOf_rd (.slice A2 x.moves.length C2) x.moves ls[j] _ _ (Rp.keep hr2 (by with_reducible repeat (first | exact Only.refl _ _ | assumption | refine Only.drewN ?_ _ | refine Only.drew ?_ | refine Only.alloc ?_ _ | refine Only.setCell ?_ (by intro hh; exfalso; simp at hh; try omega) _ | refine Only.trans ?_ (by assumption)))) Hmv.out Hla.out hml).mono ?_); rintro e w10 ⟨u10, f10, rfl, r10, F10, t10⟩; obtain ⟨a10, c10, rfl, I10⟩ := r10.ints; clear I10; have k10 : Only [] W2 w10 := Only.trans (by with_reducible repeat (first | exact Only.refl _ _ | refine Only.drew ?_)) t10; have kl : Only [] w10 (w10.alloc (.cells #[.slice a10 (mv x.moves ls[j]).length c10] 25)) := (Only.refl _ _).alloc _; have y610 := k10.cell (by simp) y6; have y611 := kl.cell (by simp) y610; have A10 := hHA.out.keep k10; have G11 := (hHG.out.keep k10).keep kl; have r11 := Rp.keep r10 kl; have hB10 : w8.heap.size ≤ w10.heap.size := Nat.le_trans hsW k10.size; have hap10 : ∀ b ∈ f10, (Value.slice Pm ml.length Qm).ownBlock ≠ some b := (fun b hb he => by have h1 := hHA.out.ownlt b he; have h8 : b < w.heap.size ∨ W2.heap.size ≤ b := (F10 b hb).imp (fun hm => Rp.lt h2 b hm) (fun hm => (by (try simp at hm); omega)); omega))
        | (refine step_push2w rfl _ _ 22 rfl w8.heap.size 25 iL _ 24 Tryz.underlying22 hiL hL0 hL1 hL2 rfl (by decide) (by decide) w10 (.slice Pm ml.length Qm) ml gs rfl A10 kl hB10 w10.heap.size 1 [.slice a10 (mv x.moves ls[j]).length c10] (mv x.moves ls[j]) f10 rfl (lit_src w10 [.slice a10 (mv x.moves ls[j]).length c10] _ rfl) (by intro u hu; simp at hu; subst hu; rfl) r11 hap10 hml2 ?_; intro v12 w12 hA12 hO12 hN12; obtain ⟨a12, n12, c12, rfl⟩ : ∃ a n c, v12 = Value.slice a n c := (let ⟨a, c, hh⟩ := hA12.form; ⟨a, _, c, hh⟩); have B12 := G11.only hO12 (fun hm => by have := hHA.out.ownlt _ (by simpa using hm); omega); have y12 := B12.cell 6 rfl; have p12 := B12.frozen 6)
        | fail "no arm")
      all_goals go_wp2_with fail
      all_goals have hse : Only [w3.heap.size] w12 (w12.setCell ⟨w3.heap.size, 6, none⟩ (.slice a12 n12 c12)) := (Only.refl _ _).setCell (by simp) _
      all_goals have hBe := B12.set 6 (.slice a12 n12 c12)
      all_goals simp only [List.set] at hBe
      all_goals have hfl : ∀ b ∈ (gs ++ [f10]).flatten, b < w.heap.size ∨ w8.heap.size ≤ b := (fun b hb => (by rw [List.flatten_append] at hb; rcases List.mem_append.1 hb with hb | hb; exact hgs b hb; exact (F10 b (by simpa using hb)).imp (fun hm => Rp.lt h2 b hm) (fun hm => (by (try simp at hm); omega))))
      all_goals have hAe := hA12.only hse (fun b hb hm => (by have := hfl b hb; simp at hm; omega)) (fun q hq hm => (by have := (hA12.ownlt q hq).1; simp at hm; omega))
      all_goals rw [Hmle.out, ← Hsn.out] at hAe
      all_goals have hKe := ((hK.trans (k10.weaken _)).keepThen kl)
      all_goals have hKf := (hKe.then_ hO12 (fun b hb hl => (by exfalso; have := hHA.out.ownlt b (by simpa using hb); omega))).trans hse
      all_goals exact ⟨⟨j + 1, _, gs ++ [f10], by omega, by go_num, hBe, hAe, hfl, hKf⟩, by simp [intOf]; omega⟩
    · obtain rfl : j = ls.length := by omega
      obtain ⟨vm, hvm⟩ : ∃ vm, vm = Value.slice Pm (List.map (mv x.moves) (List.take ls.length ls)).length Qm := ⟨_, rfl⟩
      rw [← hvm] at hA hG
      rw [List.take_length] at hA
      clear hvm
      have hfm : ∀ b ∈ vm.ownBlock.toList ++ gs.flatten, b < W2.heap.size ∧ (b < w.heap.size ∨ w8.heap.size ≤ b) := fun b hb => by
        rcases List.mem_append.1 hb with hb | hb
        · have := hA.ownlt b (by simpa using hb); omega
        · exact ⟨hA.lt b hb, hgs b hb⟩
      have hng2 : ∀ b : Nat, b ≠ w3.heap.size → b ∉ [w3.heap.size] := fun b hb hm => hb (by simpa using hm)
      have hA9 := hA8.only hK (fun b hb => hng2 b (by have := h45 b (by simpa using hb); omega)) (fun q hq => hng2 q (by simp [Value.ownBlock] at hq; omega))
      have hD9 := hD8.only hK (fun q hq => hng2 q (by simp [Value.ownBlock] at hq; omega))
      have hM9 := hM8.only hK (hng2 _ (by omega))
      have r49 := Rp.only r48 hK (fun b hb => hng2 b (by have := h34 b hb; omega))
      have F49 := F48.only hK (fun b hb => hng2 b (by have := h34 b hb; omega))
      have F59 := F58.only hK (fun b hb => hng2 b (by have := h45 b hb; omega))
      have hwW := hKW.size
      have hFil : Fil x w.heap.size w3.heap.size W2 (startF tr) := by
        refine ⟨w.heap.size + 1, _, vm, f4, vm.ownBlock.toList ++ gs.flatten, f4 ++ (vm.ownBlock.toList ++ gs.flatten), _, _, [f5], ⟨hG, hA9, hD9, hM9, r49, ?_, ⟨?_, ?_⟩, ?_, fun b hb => List.mem_append_left _ hb, fun b hb => List.mem_append_right _ hb, ?_, hwW⟩⟩
        · rw [← Hls.out]; exact hA.rd (by decide)
        · show ([[w3.heap.size], [w.heap.size + 1], [w5.heap.size], [w5.heap.size + 1]] : List (List Nat)).flatten.Nodup
          simp
          omega
        · intro c hc b hb
          have hc' : c = [w3.heap.size] ∨ c = [w.heap.size + 1] ∨ c = [w5.heap.size] ∨ c = [w5.heap.size + 1] := by simpa [flF, Value.ownBlock] using hc
          rcases hc' with rfl | rfl | rfl | rfl <;> simp at hb <;> omega
        · intro b hb
          have key : b < W2.heap.size ∧ b ≠ w3.heap.size ∧ b ≠ w.heap.size + 1 ∧ b ≠ w5.heap.size ∧ b ≠ w5.heap.size + 1 := by
            rcases List.mem_append.1 hb with hb | hb
            · have := h45 b (by simpa using hb); omega
            · rcases List.mem_append.1 hb with hb | hb
              · have := h34 b hb; omega
              · have := hfm b hb; omega
          refine ⟨key.1, fun c hc hm => ?_⟩
          have hc' : c = [w3.heap.size] ∨ c = [w.heap.size + 1] ∨ c = [w5.heap.size] ∨ c = [w5.heap.size + 1] := by simpa [flF, Value.ownBlock] using hc
          rcases hc' with rfl | rfl | rfl | rfl <;> simp at hm <;> omega
        · have e : [f5].flatten = f5 := by simp
          rw [e]
          exact Fresh.append (F49.mono (by (try simp); omega)) F59 (by omega) (fun b hb => by have := h34 b hb; omega)
      have HFil := Lib.hid hFil
      clear hFil hG hA hA9 hD9 hM9 r49 F49 F59
      go_wp2_with fail
      go_ret
      exact ⟨_, rfl, HFil.out, hKW⟩
end Go.Proofs.YtlcoejncdbkhcaaGreat

namespace Go.Proofs.YtlcoejncdbkhcaaGreat
open Go.RowKit
set_option maxRecDepth 10000

/-- the job after n expansions, with s bytes synced -/
def chF (x : Puzzle) (tr : List Int) (s : Int) (n : Nat) : FillJob := { atF x tr n with synced := s }
theorem chF_next (x : Puzzle) (tr : List Int) (s : Int) (n : Nat) : expandF x (chF x tr s n) = chF x tr s (n + 1) := rfl
theorem chF_go {x : Puzzle} {tr : List Int} {s : Int} {n : Nat} (h1 : (bTab x tr).isSome = true) (h2 : okF x tr n) : GoF x (chF x tr s n) n := by
  obtain ⟨hg, hn, -⟩ := atF_good h1 n h2
  obtain ⟨t, ht⟩ := Option.isSome_iff_exists.1 h1
  have hf := bTab_facts ht
  refine ⟨hf.1, ?_, hg.nx, ?_, hg.ln, hg.le, ?_, ?_, ?_⟩
  · show trackB x.points (atF x tr n).table.tracked = true
    rw [hg.tk]; exact hf.2.1
  · show n ≤ (atF x tr n).table.patterns.length
    rcases Nat.eq_zero_or_pos n with h0 | h0
    · omega
    · obtain ⟨m, rfl⟩ : ∃ m, n = m + 1 := ⟨n - 1, by omega⟩
      have h5 := h2 m (by omega)
      have h6 := atF_len_le x tr m
      omega
  · show ∀ q ∈ (atF x tr n).table.patterns, patB x.points (atF x tr n).table.tracked.length q = true
    rw [hg.tk]; exact hg.ps
  · intro d hd; have := hg.ds d hd; omega
  · show (atF x tr n).log.size ≤ 2000000
    have := hg.lg; omega
theorem chF_valid {x : Puzzle} {j : FillJob} (h : validF x j = true) : ∃ n : Nat, (bTab x j.table.tracked).isSome = true ∧ okF x j.table.tracked n ∧ j = chF x j.table.tracked j.synced n := by
  obtain ⟨n, h1, h2, h3, -⟩ := validF_at h
  exact ⟨n, h1, h2, h3⟩
/-- a step goes on along the chain -/
theorem chF_step {x : Puzzle} {tr : List Int} {s : Int} {n : Nat} (h1 : (bTab x tr).isSome = true) (h2 : okF x tr n) (h3 : (stepF x (chF x tr s n)).2 = true) : okF x tr (n + 1) ∧ (stepF x (chF x tr s n)).1 = chF x tr s (n + 1) := by
  have hg := chF_go (s := s) h1 h2
  have hd : (chF x tr s n).next ≠ (chF x tr s n).table.patterns.length := by
    intro hd; rw [stepF_done hd] at h3; cases h3
  have hl : ¬ 60000 < (expandF x (chF x tr s n)).log.size := by
    intro hl; rw [stepF_long hd hl] at h3; cases h3
  refine ⟨fun m hm => ?_, by rw [stepF_go hd hl]; exact chF_next x tr s n⟩
  rcases Nat.lt_or_ge m n with h | h
  · exact h2 m h
  · have e : m = n := by omega
    subst e
    have h4 := hg.lt
    have h5 := hg.nx
    have h6 : m ≠ (atF x tr m).table.patterns.length := fun he => hd (by rw [h5]; exact congrArg Nat.cast he)
    have h7 : m ≤ (atF x tr m).table.patterns.length := h4
    omega
theorem chF_stay {x : Puzzle} {j : FillJob} (h : (stepF x j).2 = false) : (stepF x j).1 = j := by
  by_cases h1 : j.next = j.table.patterns.length
  · rw [stepF_done h1]
  · by_cases h2 : 60000 < (expandF x j).log.size
    · rw [stepF_long h1 h2]
    · rw [stepF_go h1 h2] at h; cases h
/-- up to k steps: the job and how many -/
def runF (x : Puzzle) (j : FillJob) : Nat → FillJob × Nat
  | 0 => (j, 0)
  | k + 1 => if (stepF x j).2 = true then ((runF x (stepF x j).1 k).1, (runF x (stepF x j).1 k).2 + 1) else (j, 0)
end Go.Proofs.YtlcoejncdbkhcaaGreat

namespace Go.Proofs.YtlcoejncdbkhcaaGreat
open Go.RowKit
set_option maxRecDepth 10000

set_option maxHeartbeats 2000000 in
theorem start_any (cs : List Value) (x : Puzzle) (fp : List Nat) (v : Value) (tr : List Int) (ft : List Nat) (w : World) (h : Rp.rep w cs x fp) (hv : Rd w v tr ft) (htl : tr.length ≤ 2097152) :
    Calls Tryz.prog 106 #[.agg cs.toArray, v] w fun e w' => ∃ q, e = .returned (.tuple #[.pointer q, .bool (bTab x tr).isSome]) ∧ ((bTab x tr).isSome = true → ∃ B g, q = some ⟨g, 0, none⟩ ∧ w.heap.size ≤ B ∧ Fil x B g w' (startF tr)) ∧ Only [] w w' := by
  have hh := h
  obtain ⟨v2, rfl, p0, p1, h2⟩ := h
  obtain ⟨A2, C2, _, _, rfl, -, -⟩ := h2.open_
  obtain ⟨av, cv, rfl, Iv⟩ := hv.ints
  clear p0 p1 Iv
  have X0 : Blk (w.alloc (.cells #[.int .i64 x.points, .string x.names, .slice A2 x.moves.length C2] 37)) w.heap.size [.int .i64 x.points, .string x.names, .slice A2 x.moves.length C2] := Blk.new w _ _
  obtain ⟨ok, hok⟩ : ∃ ok, ok = (bTab x tr).isSome := ⟨_, rfl⟩
  rw [← hok]
  cases ok
  · have Hok := Lib.hid hok
    clear hok
    go_enter Tryz.func106, Tryz.ntmps106
    go_wp2_with (first
      | (go_at_call 77; (with_reducible refine (implBuildTable_any [.int .i64 x.points, .string x.names, .slice A2 x.moves.length C2] x _ _ tr _ _ (Rp.keep hh (by with_reducible repeat (first | exact Only.refl _ _ | assumption | refine Only.drewN ?_ _ | refine Only.drew ?_ | refine Only.alloc ?_ _ | refine Only.setCell ?_ (by intro hh; exfalso; simp at hh; try omega) _ | refine Only.trans ?_ (by assumption)))) (Rp.keep hv (by with_reducible repeat (first | exact Only.refl _ _ | assumption | refine Only.drewN ?_ _ | refine Only.drew ?_ | refine Only.alloc ?_ _ | refine Only.setCell ?_ (by intro hh; exfalso; simp at hh; try omega) _ | refine Only.trans ?_ (by assumption)))) htl).mono ?_); rintro e w1 ⟨cs1, f1, he, r1, F1, t1⟩; rw [← Hok.out] at he; obtain ⟨T, hT⟩ : ∃ T, T = (bTab x tr).getD noTab := ⟨_, rfl⟩; rw [← hT] at r1; clear hT; obtain ⟨u1, u2, u3, e1, e2, e3, rfl, -, s1, s2, s3⟩ := r1; obtain ⟨B1, D1, _, _, rfl, -⟩ := s1.open_; obtain ⟨B2, D2, _, _, rfl, -⟩ := s2.open_; obtain ⟨B3, D3, _, _, rfl, -⟩ := s3.open_; subst he)
      | fail "no arm")
    refine bodyPost_ret (v := .tuple #[.pointer none, .bool false]) (by simp [results, Tryz.results106, go_sem]) rfl ⟨none, rfl, by simp, (by with_reducible repeat (first | exact Only.refl _ _ | assumption | refine Only.drewN ?_ _ | refine Only.drew ?_ | refine Only.alloc ?_ _ | refine Only.setCell ?_ (by intro hh; exfalso; simp at hh; try omega) _ | refine Only.trans ?_ (by assumption)))⟩
  · obtain ⟨t, ht⟩ := Option.isSome_iff_exists.1 hok.symm
    have hf := bTab_facts ht
    have Hok := Lib.hid hok
    have Hv := Lib.hid hf.1
    have Htr := Lib.hid hf.2.1
    clear hok ht hf
    go_enter Tryz.func106, Tryz.ntmps106
    go_wp2_with (first
      | (go_at_call 77; (with_reducible refine (implBuildTable_any [.int .i64 x.points, .string x.names, .slice A2 x.moves.length C2] x _ _ tr _ _ (Rp.keep hh (by with_reducible repeat (first | exact Only.refl _ _ | assumption | refine Only.drewN ?_ _ | refine Only.drew ?_ | refine Only.alloc ?_ _ | refine Only.setCell ?_ (by intro hh; exfalso; simp at hh; try omega) _ | refine Only.trans ?_ (by assumption)))) (Rp.keep hv (by with_reducible repeat (first | exact Only.refl _ _ | assumption | refine Only.drewN ?_ _ | refine Only.drew ?_ | refine Only.alloc ?_ _ | refine Only.setCell ?_ (by intro hh; exfalso; simp at hh; try omega) _ | refine Only.trans ?_ (by assumption)))) htl).mono ?_); rintro e w1 ⟨cs1, f1, he, r1, F1, t1⟩; rw [← Hok.out] at he; obtain ⟨T, hT⟩ : ∃ T, T = (bTab x tr).getD noTab := ⟨_, rfl⟩; rw [← hT] at r1; clear hT; obtain ⟨u1, u2, u3, e1, e2, e3, rfl, -, s1, s2, s3⟩ := r1; obtain ⟨B1, D1, _, _, rfl, -⟩ := s1.open_; obtain ⟨B2, D2, _, _, rfl, -⟩ := s2.open_; obtain ⟨B3, D3, _, _, rfl, -⟩ := s3.open_; subst he; have X1 := (X0.keep t1).keep ((Only.refl [] w1).alloc (.cells #[.slice B1 T.tracked.length D1, .slice B2 T.patterns.length D2, .slice B3 T.distances.length D3] 32)); have x0 := X1.cell 0 rfl; have x1 := X1.cell 1 rfl; have x2 := X1.cell 2 rfl)
      | (go_at_call 154; (with_reducible refine (newFiller_any [.int .i64 x.points, .string x.names, .slice A2 x.moves.length C2] x _ _ tr _ _ (Rp.keep hh (by with_reducible repeat (first | exact Only.refl _ _ | assumption | refine Only.drewN ?_ _ | refine Only.drew ?_ | refine Only.alloc ?_ _ | refine Only.setCell ?_ (by intro hh; exfalso; simp at hh; try omega) _ | refine Only.trans ?_ (by assumption)))) (Rp.keep hv (by with_reducible repeat (first | exact Only.refl _ _ | assumption | refine Only.drewN ?_ _ | refine Only.drew ?_ | refine Only.alloc ?_ _ | refine Only.setCell ?_ (by intro hh; exfalso; simp at hh; try omega) _ | refine Only.trans ?_ (by assumption)))) Hv.out Htr.out).mono ?_); rintro e w2 ⟨g, rfl, hFil, t2⟩)
      | fail "no arm")
    have t1s := t1.size
    simp at t1s
    refine bodyPost_ret (v := .tuple #[.pointer (some ⟨g, 0, none⟩), .bool true]) (by simp [results, Tryz.results106, go_sem]) rfl ⟨_, rfl, fun _ => ⟨_, g, rfl, by simp; omega, hFil⟩, (by with_reducible repeat (first | exact Only.refl _ _ | assumption | refine Only.drewN ?_ _ | refine Only.drew ?_ | refine Only.alloc ?_ _ | refine Only.setCell ?_ (by intro hh; exfalso; simp at hh; try omega) _ | refine Only.trans ?_ (by assumption)))⟩
end Go.Proofs.YtlcoejncdbkhcaaGreat

namespace Go.Proofs.YtlcoejncdbkhcaaGreat
open Go.RowKit
set_option maxRecDepth 10000

theorem atF_log_le (x : Puzzle) (tr : List Int) {n m : Nat} (h : n ≤ m) : (atF x tr n).log.size ≤ (atF x tr m).log.size := by
  rcases Nat.lt_or_ge n m with h1 | h1
  · exact Nat.le_of_lt (atF_log_mono x tr h1)
  · have : n = m := by omega
    rw [this]; exact Nat.le_refl _
theorem valF_next {x : Puzzle} {j : FillJob} {n : Nat} (h : valF x j n) : j.next = n := by
  obtain ⟨hb, -, -, hk, he⟩ := h
  rw [← he.1]; exact ((atF_good hb n hk).1).nx
theorem validF_next {x : Puzzle} {j : FillJob} (h : validF x j = true) : 0 ≤ j.next ∧ j.next ≤ 3000 := by
  rw [validF_iff] at h
  obtain ⟨n, hv⟩ := h
  have h1 := valF_next hv
  have h2 := (atF_good hv.1 n hv.2.2.2.1).2.1
  omega
/-- the replay is at its end -/
theorem validF_end {x : Puzzle} {j : FillJob} {m : Nat} (hb : (bTab x j.table.tracked).isSome = true) (hl : j.log.size ≤ 60000) (hs : 0 ≤ j.synced ∧ j.synced ≤ j.log.size) (hok : okF x j.table.tracked m) (hm : j.next = m) :
    validF x j = (decide ((atF x j.table.tracked m).log = j.log) && eqV (atF x j.table.tracked m).table j.table) := by
  rw [Bool.eq_iff_iff, validF_iff, Bool.and_eq_true, decide_eq_true_iff]
  constructor
  · rintro ⟨n, hv⟩
    have h1 := valF_next hv
    have e : n = m := by omega
    subst e
    exact ⟨hv.2.2.2.2.2.1, by unfold eqV; simpa using hv.2.2.2.2.2.2⟩
  · rintro ⟨h1, h2⟩
    unfold eqV at h2
    refine ⟨m, hb, hl, hs, hok, ?_, h1, by simpa using h2⟩
    rw [hm]; exact ((atF_good hb m hok).1).nx
theorem chF_log (x : Puzzle) (tr : List Int) (s : Int) (n : Nat) : (chF x tr s n).log = (atF x tr n).log := rfl
theorem chF_tab (x : Puzzle) (tr : List Int) (s : Int) (n : Nat) : (chF x tr s n).table = (atF x tr n).table := rfl
/-- the replay cannot go on -/
theorem validF_stuck {x : Puzzle} {j : FillJob} {m : Nat} {s : Int} (hok : okF x j.table.tracked m) (hm : (m : Int) < j.next) (hst : (stepF x (chF x j.table.tracked s m)).2 = false) : validF x j = false := by
  rw [← Bool.not_eq_true, validF_iff]
  rintro ⟨n, hv⟩
  have h1 := valF_next hv
  obtain ⟨hb, hl, -, hk, he⟩ := hv
  have hmn : m < n := by omega
  have hlt := hk m hmn
  have hd : (chF x j.table.tracked s m).next ≠ (chF x j.table.tracked s m).table.patterns.length := by
    have hnx : (chF x j.table.tracked s m).next = m := ((atF_good hb m hok).1).nx
    rw [hnx, chF_tab]
    omega
  have hlong : 60000 < (expandF x (chF x j.table.tracked s m)).log.size := by
    apply Classical.byContradiction
    intro hc
    rw [stepF_go hd hc] at hst
    cases hst
  have h5 : (expandF x (chF x j.table.tracked s m)).log.size = (atF x j.table.tracked (m + 1)).log.size := by rw [chF_next, chF_log]
  have h6 := atF_log_le x j.table.tracked (show m + 1 ≤ n by omega)
  rw [he.2.1] at h6
  omega
end Go.Proofs.YtlcoejncdbkhcaaGreat
