/- Composition and inverse of permutations: the reference's and the program's. -/
import Derived.Test.YtpfmkjcngknecaaIdent
namespace Go.Proofs.Ytpfmkjcngknecaa
open Go.RowKit
set_option maxRecDepth 10000

theorem PN_i64 {n : Nat} {p : List Int} (h : PM.PN n p) (hn : n ≤ 1000) : ∀ x ∈ p, I64 x := fun x hx => by
  have := h.2.1 x hx; rw [h.1] at this; unfold I64; omega
/-- the cell of a permutation's entry -/
theorem IntsA.at_pm {w : World} {a : Option Addr} {cap : Nat} {l : List Int} {fp : List Nat} (h : IntsA w a cap l fp) {x : Int} (h0 : 0 ≤ x) (h1 : x < l.length) :
    ∃ b off, a = some ⟨b, off, none⟩ ∧ fp = [b] ∧ w.cell? ⟨b, off + x.toNat, none⟩ = some (.int .i64 (PM.at_ l x)) := by
  obtain ⟨b, off, e1, e2, e3⟩ := h.at_ x.toNat (by omega)
  refine ⟨b, off, e1, e2, ?_⟩
  rw [e3]; simp [PM.at_, show x.toNat < l.length by omega]
theorem comp_take_succ (p q : List Int) (j : Nat) (h : j < p.length) : PM.comp (p.take (j + 1)) q = PM.comp (p.take j) q ++ [PM.at_ q p[j]] := by
  unfold PM.comp; rw [take_succ_get p j h, List.map_append]; rfl
theorem comp_i64 {n : Nat} {p q : List Int} (hp : PM.PN n p) (hq : PM.PN n q) (hn : n ≤ 1000) : ∀ x ∈ PM.comp p q, I64 x := PN_i64 (hp.comp hq) hn
/-- the inverse as far as it is laid -/
def invTo (p : List Int) (j : Nat) : List Int := (PM.pts p.length).map fun y => if y ∈ p.take j then (p.idxOf y : Int) else 0
theorem invTo_len (p : List Int) (j : Nat) : (invTo p j).length = p.length := by simp [invTo, PM.pts_len]
theorem invTo_get (p : List Int) (j k : Nat) (h : k < (invTo p j).length) : (invTo p j)[k] = if (k : Int) ∈ p.take j then (p.idxOf (k : Int) : Int) else 0 := by
  have h1 : k < (PM.pts p.length).length := by rw [invTo_len] at h; rw [PM.pts_len]; exact h
  have : (invTo p j)[k] = (fun y : Int => if y ∈ p.take j then (p.idxOf y : Int) else 0) ((PM.pts p.length)[k]) := List.getElem_map ..
  rw [this, PM.pts_get]
theorem invTo_zero (p : List Int) : invTo p 0 = List.replicate p.length 0 := by
  apply List.ext_getElem (by simp [invTo_len])
  intro k h1 h2; rw [invTo_get]; simp
theorem invTo_all {n : Nat} {p : List Int} (hp : PM.PN n p) {j : Nat} (hj : p.length ≤ j) : invTo p j = PM.inv p := by
  unfold invTo PM.inv
  rw [List.take_of_length_le hj]
  apply List.map_congr_left
  intro y hy
  rw [if_pos (hp.2.all hy)]
theorem invTo_succ {n : Nat} {p : List Int} (hp : PM.PN n p) {j : Nat} (hj : j < p.length) : invTo p (j + 1) = (invTo p j).set (p[j]).toNat (j : Int) := by
  have hx := hp.2.1 p[j] (List.getElem_mem hj)
  apply List.ext_getElem (by simp [invTo_len])
  intro k h1 h2
  rw [invTo_len] at h1
  rw [List.getElem_set]
  rw [invTo_get, invTo_get]
  by_cases hk : (p[j]).toNat = k
  · rw [if_pos hk]
    have e : (k : Int) = p[j] := by omega
    have hm : p[j] ∈ p.take (j + 1) := by rw [take_succ_get p j hj]; exact List.mem_append_right _ (List.mem_singleton.2 rfl)
    rw [e, if_pos hm]
    have hi : p.idxOf p[j] < p.length := List.idxOf_lt_length_of_mem (List.getElem_mem hj)
    have hg : p[p.idxOf p[j]] = p[j] := by simp
    have := PM.nodup_inj hp.2.2 hi hj hg
    rw [this]
  · rw [if_neg hk, take_succ_get p j hj]
    have : ((k : Int) ∈ p.take j ++ [p[j]]) ↔ (k : Int) ∈ p.take j := by
      rw [List.mem_append, List.mem_singleton]
      constructor
      · rintro (h | h)
        · exact h
        · omega
      · exact .inl
    simp only [this]
/-- the identity of the model's zeros -/
theorem map_zero (n : Nat) : (List.replicate n (0 : Int)).map (Value.int .i64) = List.replicate n (.int .i64 0) := by simp

set_option maxHeartbeats 1000000 in
theorem implCompose_rd (n : Nat) (vp vq : Value) (p q : List Int) (fp fq : List Nat) (w : World) (hp : Rd w vp p fp) (hq : Rd w vq q fq) (pp : PM.PN n p) (pq : PM.PN n q) (hn : n ≤ 1000) :
    Calls Try.prog 104 #[vp, vq] w fun e w' => ∃ v fp', e = .returned v ∧ Rd w' v (PM.comp p q) fp' ∧ Fresh w.heap.size w' fp' ∧ Only [] w w' := by
  obtain ⟨ap, cp, rfl, IP⟩ := hp.ints
  obtain ⟨aq, cq, rfl, IQ⟩ := hq.ints
  obtain ⟨i0, hi, hz0, hz1, hz2⟩ := info_parts Try.info2
  have hlp := pp.1
  have hlq := pq.1
  have hpn : p.length ≤ 1000 := by omega
  have HPP := Lib.hid pp; have HPQ := Lib.hid pq
  have HLP := Lib.hid hlp; have HLQ := Lib.hid hlq
  clear hlp hlq pp pq
  go_enter Try.func104, Try.ntmps104
  go_wp2_with (at_make; refine wpList_make_full _ rfl _ _ 25 rfl w.heap.size 2 i0 _ 1 Try.underlying25 hi hz0 hz1 _ _ _ _ p.length rfl rfl rfl rfl (by rw [hz2]; omega) (by unfold maxLen; omega) (Nat.le_refl _) ?_; intro w1 hown hg)
  rw [madeInts, Nat.mul_one] at hown
  have hs1 := hg.size
  go_loopw [13] (fun i wr => ∃ j : Nat, j ≤ p.length ∧ i = .int .i64 j ∧
      wr.ownsRow w.heap.size 2 1 (.slice (some ⟨w.heap.size, 0, none⟩) p.length p.length) p.length ((PM.comp (p.take j) q).map (Value.int .i64) ++ List.replicate (p.length - j) (.int .i64 0)) ∧ Only [] w wr)
    (fun i _ => p.length - (intOf i).toNat)
  case atStart => exact ⟨0, Nat.zero_le _, rfl, by simpa [PM.comp] using hown, (Only.refl _ _).grown hg (by simp)⟩
  case round =>
    obtain ⟨j, hj, rfl, hO, hK⟩ := hrel
    have hpl : ((PM.comp (p.take j) q).map (Value.int .i64)).length = j := by rw [List.length_map, PM.comp_len, List.length_take]; omega
    by_cases hlt : j < p.length
    · obtain ⟨bp, op, rfl, -, hcp0⟩ := IP.at_ j hlt
      have hcp := hK.cell (by simp) hcp0
      have hr := HPP.out.2.1 p[j] (List.getElem_mem hlt)
      have hx0 : 0 ≤ p[j] := hr.1
      have hx1 : p[j] < (q.length : Int) := by have := HLP.out; have := HLQ.out; omega
      obtain ⟨bq, oq, rfl, -, hcq0⟩ := IQ.at_pm hx0 hx1
      have hcq := hK.cell (by simp) hcq0
      obtain ⟨hO2, hg2⟩ := hO.stored j (.int .i64 (PM.at_ q p[j]))
      have hstep : ((PM.comp (p.take j) q).map (Value.int .i64) ++ List.replicate (p.length - j) (Value.int .i64 0)).set j (.int .i64 (PM.at_ q p[j])) = (PM.comp (p.take (j + 1)) q).map (Value.int .i64) ++ List.replicate (p.length - (j + 1)) (.int .i64 0) := by
        rw [show p.length - j = (p.length - (j + 1)) + 1 by omega, List.replicate_succ, List.set_append_right _ _ (by omega), hpl, Nat.sub_self, comp_take_succ p q j hlt]
        simp
      rw [hstep] at hO2
      have hc2 : wr.cell? ⟨w.heap.size, j, none⟩ = some (.int .i64 0) := by
        rw [hO.cellAt j (by omega), List.getElem?_append_right (by omega), List.getElem?_replicate, if_pos (by omega)]
      have hf2 := hO.frozenAt j
      have hK2 := hK.setCell (p := ⟨w.heap.size, j, none⟩) (by simp) (.int .i64 (PM.at_ q p[j]))
      have HO := Lib.hid hO2
      have hb1 := IP.bound
      have hb2 := IQ.bound
      clear hO hO2 hg hg2 hown hstep hpl hcp0 hcq0 hr
      go_wp2
      go_roundw
      case rel => exact ⟨j + 1, by omega, by go_num, HO.out, hK2⟩
      case measure => simp [intOf]; omega
    · have hjl : j = p.length := by omega
      rw [hjl] at hO
      simp only [Nat.sub_self, List.replicate_zero, List.append_nil, List.take_length] at hO
      have hw := comp_i64 HPP.out HPQ.out hn
      have hO' : wr.ownsRow w.heap.size 2 1 (.slice (some ⟨w.heap.size, 0, none⟩) p.length p.length) (PM.comp p q).length ((PM.comp p q).map (Value.int .i64)) := by rw [PM.comp_len]; exact hO
      obtain ⟨a', cap', hv, -, hI, hF⟩ := own_ints hO' hw
      have HI := Lib.hid hI
      have Hv := Lib.hid hv
      clear hjl hO hO' hv hown hI hpl hw
      go_wp2
      go_ret
      refine ⟨_, _, rfl, ?_, hF, hK⟩
      have hr := HI.out.rd
      rw [← Hv.out] at hr; exact hr
set_option maxHeartbeats 1000000 in
theorem specCompose_rd (n : Nat) (vp vq : Value) (p q : List Int) (fp fq : List Nat) (w : World) (hp : Rd w vp p fp) (hq : Rd w vq q fq) (pp : PM.PN n p) (pq : PM.PN n q) (hn : n ≤ 1000) :
    Calls Try.prog 100 #[vp, vq] w fun e w' => ∃ v fp', e = .returned v ∧ Rd w' v (PM.comp p q) fp' ∧ Fresh w.heap.size w' fp' ∧ Only [] w w' := by
  obtain ⟨ap, cp, rfl, IP⟩ := hp.ints
  obtain ⟨aq, cq, rfl, IQ⟩ := hq.ints
  obtain ⟨i0, hi, hz0, hz1, hz2⟩ := info_parts Try.info2
  have hlp := pp.1
  have hlq := pq.1
  have hpn : p.length ≤ 1000 := by omega
  have HPP := Lib.hid pp; have HPQ := Lib.hid pq
  have HLP := Lib.hid hlp; have HLQ := Lib.hid hlq
  clear hlp hlq pp pq
  have hb1 := IP.bound
  have hb2 := IQ.bound
  go_enter Try.func100, Try.ntmps100
  go_wp2
  go_loopw [5, 6] (fun o i wr => ∃ (j : Nat) (fs : List (List Nat)), j ≤ p.length ∧ i = .int .i64 j ∧ Acc w.heap.size 2 wr o (PM.comp (p.take j) q) fs ∧ Fresh w.heap.size wr fs.flatten ∧ Only [] w wr)
    (fun _ i _ => p.length - (intOf i).toNat)
  case atStart => exact ⟨0, [], Nat.zero_le _, rfl, by simpa [PM.comp] using Acc.made w w.heap.size _ rfl (Nat.le_refl _), Fresh.nil _ _, (Only.refl _ _).alloc _⟩
  case round =>
    obtain ⟨j, fs, hj, rfl, hA, hF, hK⟩ := hrel
    by_cases hlt : j < p.length
    · have hsz := hK.size
      obtain ⟨bp, op, rfl, -, hcp0⟩ := IP.at_ j hlt
      have hcp := hK.cell (by simp) hcp0
      have hr := HPP.out.2.1 p[j] (List.getElem_mem hlt)
      have hx0 : 0 ≤ p[j] := hr.1
      have hx1 : p[j] < (q.length : Int) := by have := HLP.out; have := HLQ.out; omega
      obtain ⟨bq, oq, rfl, -, hcq0⟩ := IQ.at_pm hx0 hx1
      have hcq := hK.cell (by simp) hcq0
      have hlj : (PM.comp (p.take j) q).length + 1 ≤ 1073741824 := by rw [PM.comp_len, List.length_take]; omega
      have hI : I64 (PM.at_ q p[j]) := PN_i64 HPQ.out hn _ (PM.at_mem hx0 hx1)
      have HI := Lib.hid hI
      clear hI hcp0 hcq0 hr
      go_wp2_with ((at_builtin; refine wpList_pushF rfl _ _ 25 rfl w.heap.size 2 i0 _ 8 Try.underlying25 hi hz0 hz1 hz2 rfl (by decide) (by decide) wr _ (PM.comp (p.take j) q) fs rfl hA hF ((Only.refl _ _).alloc _) hsz wr.heap.size 1 [.int .i64 (PM.at_ q p[j])] (PM.at_ q p[j]) [] rfl (lit_src wr [.int .i64 (PM.at_ q p[j])] _ rfl) (by intro u hu; simp at hu; subst hu; rfl) (int_rd _ HI.out) (Fresh.nil _ _) hlj w (hK.alloc _) (Nat.le_refl _) ?_; intro v3 w3 hA3 hF3 hK3 _))
      go_roundw
      case rel => exact ⟨j + 1, _, by omega, by go_num, by rw [comp_take_succ p q j hlt]; exact hA3, hF3, hK3⟩
      case measure => simp [intOf]; omega
    · have hjl : j = p.length := by omega
      rw [hjl, List.take_length] at hA
      have HA := Lib.hid hA
      clear hjl hA
      go_wp2
      go_ret
      exact ⟨_, _, rfl, HA.out.rd (by decide), HA.out.fresh hF, hK⟩
set_option maxHeartbeats 1000000 in
theorem implInv_rd (n : Nat) (vp : Value) (p : List Int) (fp : List Nat) (w : World) (hp : Rd w vp p fp) (pp : PM.PN n p) (hn : n ≤ 1000) :
    Calls Try.prog 115 #[vp] w fun e w' => ∃ v fp', e = .returned v ∧ Rd w' v (PM.inv p) fp' ∧ Fresh w.heap.size w' fp' ∧ Only [] w w' := by
  obtain ⟨ap, cp, rfl, IP⟩ := hp.ints
  obtain ⟨i0, hi, hz0, hz1, hz2⟩ := info_parts Try.info2
  have hlp := pp.1
  have hpn : p.length ≤ 1000 := by omega
  have HPP := Lib.hid pp
  clear hlp pp
  have hb1 := IP.bound
  go_enter Try.func115, Try.ntmps115
  go_wp2_with (at_make; refine wpList_make_full _ rfl _ _ 25 rfl w.heap.size 2 i0 _ 1 Try.underlying25 hi hz0 hz1 _ _ _ _ p.length rfl rfl rfl rfl (by rw [hz2]; omega) (by unfold maxLen; omega) (Nat.le_refl _) ?_; intro w1 hown hg)
  rw [madeInts, Nat.mul_one] at hown
  have hs1 := hg.size
  go_loopw [11] (fun i wr => ∃ j : Nat, j ≤ p.length ∧ i = .int .i64 j ∧
      wr.ownsRow w.heap.size 2 1 (.slice (some ⟨w.heap.size, 0, none⟩) p.length p.length) p.length ((invTo p j).map (Value.int .i64)) ∧ Only [] w wr)
    (fun i _ => p.length - (intOf i).toNat)
  case atStart => exact ⟨0, Nat.zero_le _, rfl, by rw [invTo_zero, map_zero]; exact hown, (Only.refl _ _).grown hg (by simp)⟩
  case round =>
    obtain ⟨j, hj, rfl, hO, hK⟩ := hrel
    by_cases hlt : j < p.length
    · obtain ⟨bp, op, rfl, -, hcp0⟩ := IP.at_ j hlt
      have hcp := hK.cell (by simp) hcp0
      have hr := HPP.out.2.1 p[j] (List.getElem_mem hlt)
      have hx0 : 0 ≤ p[j] := hr.1
      have hx1 : p[j] < (p.length : Int) := hr.2
      obtain ⟨hO2, hg2⟩ := hO.stored (p[j]).toNat (.int .i64 j)
      have hstep : ((invTo p j).map (Value.int .i64)).set (p[j]).toNat (.int .i64 (j : Int)) = (invTo p (j + 1)).map (Value.int .i64) := by
        rw [invTo_succ HPP.out hlt, List.map_set]
      rw [hstep] at hO2
      have hc2 : ∃ u, wr.cell? ⟨w.heap.size, (p[j]).toNat, none⟩ = some (.int .i64 u) := by
        rw [hO.cellAt _ (by omega)]
        have : (p[j]).toNat < (invTo p j).length := by rw [invTo_len]; omega
        exact ⟨(invTo p j)[(p[j]).toNat], by simp [this]⟩
      obtain ⟨u, hc2⟩ := hc2
      have hf2 := hO.frozenAt (p[j]).toNat
      have hK2 := hK.setCell (p := ⟨w.heap.size, (p[j]).toNat, none⟩) (by simp) (.int .i64 j)
      have HO := Lib.hid hO2
      clear hO hO2 hg hg2 hown hstep hcp0 hr
      go_wp2
      go_roundw
      case rel => exact ⟨j + 1, by omega, by go_num, HO.out, hK2⟩
      case measure => simp [intOf]; omega
    · have hjl : p.length ≤ j := by omega
      rw [invTo_all HPP.out hjl] at hO
      have hw := PN_i64 HPP.out.inv hn
      have hO' : wr.ownsRow w.heap.size 2 1 (.slice (some ⟨w.heap.size, 0, none⟩) p.length p.length) (PM.inv p).length ((PM.inv p).map (Value.int .i64)) := by rw [PM.inv_len]; exact hO
      obtain ⟨a', cap', hv, -, hI, hF⟩ := own_ints hO' hw
      have HI := Lib.hid hI
      have Hv := Lib.hid hv
      clear hO hO' hv hown hI hw
      go_wp2
      go_ret
      refine ⟨_, _, rfl, ?_, hF, hK⟩
      have hr := HI.out.rd
      rw [← Hv.out] at hr; exact hr
set_option maxHeartbeats 1000000 in
theorem specInv_rd (n : Nat) (vp : Value) (p : List Int) (fp : List Nat) (w : World) (hp : Rd w vp p fp) (pp : PM.PN n p) (hn : n ≤ 1000) :
    Calls Try.prog 146 #[vp] w fun e w' => ∃ v fp', e = .returned v ∧ Rd w' v (PM.inv p) fp' ∧ Fresh w.heap.size w' fp' ∧ Only [] w w' := by
  obtain ⟨ap, cp, rfl, IP⟩ := hp.ints
  obtain ⟨i0, hi, hz0, hz1, hz2⟩ := info_parts Try.info2
  have hlp := pp.1
  have hpn : p.length ≤ 1000 := by omega
  have HPP := Lib.hid pp
  clear hlp pp
  have hb1 := IP.bound
  go_enter Try.func146, Try.ntmps146
  go_wp2_with (at_make; refine wpList_make_full _ rfl _ _ 25 rfl w.heap.size 2 i0 _ 1 Try.underlying25 hi hz0 hz1 _ _ _ _ p.length rfl rfl rfl rfl (by rw [hz2]; omega) (by unfold maxLen; omega) (Nat.le_refl _) ?_; intro w1 hown hg)
  rw [madeInts, Nat.mul_one] at hown
  have hs1 := hg.size
  go_loopw [4] (fun i wr => ∃ j : Nat, j ≤ p.length ∧ i = .int .i64 j ∧
      wr.ownsRow w.heap.size 2 1 (.slice (some ⟨w.heap.size, 0, none⟩) p.length p.length) p.length ((invTo p j).map (Value.int .i64)) ∧ Only [] w wr)
    (fun i _ => p.length - (intOf i).toNat)
  case atStart => exact ⟨0, Nat.zero_le _, rfl, by rw [invTo_zero, map_zero]; exact hown, (Only.refl _ _).grown hg (by simp)⟩
  case round =>
    obtain ⟨j, hj, rfl, hO, hK⟩ := hrel
    by_cases hlt : j < p.length
    · obtain ⟨bp, op, rfl, -, hcp0⟩ := IP.at_ j hlt
      have hcp := hK.cell (by simp) hcp0
      have hr := HPP.out.2.1 p[j] (List.getElem_mem hlt)
      have hx0 : 0 ≤ p[j] := hr.1
      have hx1 : p[j] < (p.length : Int) := hr.2
      obtain ⟨hO2, hg2⟩ := hO.stored (p[j]).toNat (.int .i64 j)
      have hstep : ((invTo p j).map (Value.int .i64)).set (p[j]).toNat (.int .i64 (j : Int)) = (invTo p (j + 1)).map (Value.int .i64) := by
        rw [invTo_succ HPP.out hlt, List.map_set]
      rw [hstep] at hO2
      have hc2 : ∃ u, wr.cell? ⟨w.heap.size, (p[j]).toNat, none⟩ = some (.int .i64 u) := by
        rw [hO.cellAt _ (by omega)]
        have : (p[j]).toNat < (invTo p j).length := by rw [invTo_len]; omega
        exact ⟨(invTo p j)[(p[j]).toNat], by simp [this]⟩
      obtain ⟨u, hc2⟩ := hc2
      have hf2 := hO.frozenAt (p[j]).toNat
      have hK2 := hK.setCell (p := ⟨w.heap.size, (p[j]).toNat, none⟩) (by simp) (.int .i64 j)
      have HO := Lib.hid hO2
      clear hO hO2 hg hg2 hown hstep hcp0 hr
      go_wp2
      go_roundw
      case rel => exact ⟨j + 1, by omega, by go_num, HO.out, hK2⟩
      case measure => simp [intOf]; omega
    · have hjl : p.length ≤ j := by omega
      rw [invTo_all HPP.out hjl] at hO
      have hw := PN_i64 HPP.out.inv hn
      have hO' : wr.ownsRow w.heap.size 2 1 (.slice (some ⟨w.heap.size, 0, none⟩) p.length p.length) (PM.inv p).length ((PM.inv p).map (Value.int .i64)) := by rw [PM.inv_len]; exact hO
      obtain ⟨a', cap', hv, -, hI, hF⟩ := own_ints hO' hw
      have HI := Lib.hid hI
      have Hv := Lib.hid hv
      clear hO hO' hv hown hI hw
      go_wp2
      go_ret
      refine ⟨_, _, rfl, ?_, hF, hK⟩
      have hr := HI.out.rd
      rw [← Hv.out] at hr; exact hr
end Go.Proofs.Ytpfmkjcngknecaa
