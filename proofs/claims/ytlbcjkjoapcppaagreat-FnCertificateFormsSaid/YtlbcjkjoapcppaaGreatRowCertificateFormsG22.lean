/- The law on the forms of certificates (law 45): its walk. (Printed by mkcrflaw.py.) -/
import Derived.Test.YtlbcjkjoapcppaaGreatRowCertificateFormsG21
import Derived.Deep.RegionHeld3
namespace Go.Proofs.YtlbcjkjoapcppaaGreat
open Go.RowKit
set_option maxRecDepth 10000

theorem op_kinds (x : List Int) (L : List Table) : ((opCert x L).kind = 2 ∧ (opCert x L).words.length = 1) ∨ ((opCert x L).kind = 0 ∧ (opCert x L).words.length = 0) := by
  unfold opCert
  split
  · exact .inl ⟨rfl, rfl⟩
  · exact .inr ⟨rfl, rfl⟩
theorem rd_len {α : Type} [Rp α] {w : World} {a : Option Addr} {n c : Nat} {l : List α} {f : List Nat} (h : Rd w (.slice a n c) l f) : n = l.length := by
  obtain ⟨a', c', _, _, e, -, -⟩ := h.open_
  injection e
set_option maxHeartbeats 16000000 in
theorem FnCertificateForms_any (w : World) (v : Value) (l : List UInt8) (fc : List Nat) (h : Rd w v l fc) :
    Calls Tryz.prog 3 #[v] w fun e w' => e = .returned (.bool true) ∧ Only [] w w' := by
  by_cases hb : 4096 < l.length
  · have hd : decide (4096 < l.length) = true := by simp [hb]
    go_enter Tryz.func3, Tryz.ntmps3
    go_wp2_with ((go_at_call 4; (with_reducible refine (big_any v l fc _ h).mono ?_); rintro e w1 ⟨he, t1⟩; rw [hd] at he; subst he))
    go_ret
    exact ⟨rfl, (by with_reducible repeat (first | exact Only.refl _ _ | assumption | refine Only.drewN ?_ _ | refine Only.drew ?_ | refine Only.alloc ?_ _ | refine Only.setCell ?_ (by intro hh; exfalso; simp at hh; try omega) _ | refine Only.trans ?_ (by assumption)))⟩
  have hd : decide (4096 < l.length) = false := by simp [hb]
  have hl : l.length ≤ 4096 := by omega
  go_enter Tryz.func3, Tryz.ntmps3
  go_upto_region 5 with (first
    | (go_at_call 4; (with_reducible refine (big_any v l fc _ h).mono ?_); rintro e w1 ⟨he, t1⟩; rw [hd] at he; subst he; have k1 : Only [] w w1 := (by with_reducible repeat (first | exact Only.refl _ _ | assumption | refine Only.drewN ?_ _ | refine Only.drew ?_ | refine Only.alloc ?_ _ | refine Only.setCell ?_ (by intro hh; exfalso; simp at hh; try omega) _ | refine Only.trans ?_ (by assumption))))
    | (go_at_call 5; (with_reducible refine (drawOptimality_any v l fc w1 (Rp.keep h k1) hl).mono ?_); rintro e w2 ⟨vq, x, fq, vu, L, fL, rfl, rq, ru, smL, t2⟩; obtain ⟨aq, cq, rfl, -⟩ := id rq.ints; obtain ⟨au, cu, _, _, rfl, -, -⟩ := ru.open_; have k2 := k1.trans t2)
    | (go_at_call 6; (with_reducible refine (drawLowerBound_any v l fc w2 (Rp.keep h k2) hl).mono ?_); rintro e w3 ⟨b, vm, M, fM, rfl, hbI, rm, smM, t3⟩; obtain ⟨am, cm, _, _, rfl, -, -⟩ := rm.open_; have k3 := k2.trans t3; have rq3 := Rp.keep rq t3; have ru3 := Rp.keep ru t3)
    | fail "no arm")
  clear rq ru k1 k2 t1 t2 t3
  go_upto_region 6 with (first
    | (go_at_call 7; (with_reducible refine (implOpCert_rd (.slice aq x.length cq) x fq (.slice au L.length cu) L fL w3 rq3 ru3 smL).mono ?_); rintro e w4 ⟨cs4, f4, rfl, r4, F4, t4⟩; obtain ⟨A1a, n1a, C1a, A2a, n2a, C2a, A3a, n3a, C3a, rfl⟩ := cert_form r4)
    | fail "no arm")
  obtain ⟨ca, hca⟩ : ∃ ca, ca = opCert x L := ⟨_, rfl⟩
  rw [← hca] at r4 ⊢
  have kala : Only [] w4 (w4.alloc (.cells #[.int .i64 ca.kind, .slice A1a n1a C1a, .slice A2a n2a C2a, .slice A3a n3a C3a] 32)) := (Only.refl _ _).alloc _
  have Ba := Blk.new w4 [.int .i64 ca.kind, .slice A1a n1a C1a, .slice A2a n2a C2a, .slice A3a n3a C3a] 32
  have ra := Rp.keep r4 kala
  have rq4 := Rp.keep (Rp.keep rq3 t4) kala
  have ru4 := Rp.keep (Rp.keep ru3 t4) kala
  have rm4 := Rp.keep (Rp.keep rm t4) kala
  have k4 := (k3.trans t4).trans kala
  obtain ⟨W4, hW4⟩ : ∃ W, W = w4.alloc (.cells #[.int .i64 ca.kind, .slice A1a n1a C1a, .slice A2a n2a C2a, .slice A3a n3a C3a] 32) := ⟨_, rfl⟩
  obtain ⟨b7, hb7⟩ : ∃ b7, b7 = w4.heap.size := ⟨_, rfl⟩
  rw [← hW4] at Ba ra rq4 ru4 rm4 k4 ⊢
  rw [← hb7] at Ba ⊢
  have h7 : b7 < W4.heap.size := Ba.lt
  clear hW4 hb7 kala r4 F4 t4 rq3 ru3 rm k3
  go_upto_region 7 with (first
    | (go_at_call 8; (with_reducible refine (implSolCert_rd (.slice aq x.length cq) x fq W4 rq4).mono ?_); rintro e w5 ⟨cs5, f5, rfl, r5, F5, t5⟩; obtain ⟨A1b, n1b, C1b, A2b, n2b, C2b, A3b, n3b, C3b, rfl⟩ := cert_form r5)
    | fail "no arm")
  obtain ⟨cb, hcb⟩ : ∃ cb, cb = solCert x := ⟨_, rfl⟩
  rw [← hcb] at r5 ⊢
  have kalb : Only [] w5 (w5.alloc (.cells #[.int .i64 cb.kind, .slice A1b n1b C1b, .slice A2b n2b C2b, .slice A3b n3b C3b] 32)) := (Only.refl _ _).alloc _
  have t5b := t5.trans kalb
  have Bb := Blk.new w5 [.int .i64 cb.kind, .slice A1b n1b C1b, .slice A2b n2b C2b, .slice A3b n3b C3b] 32
  have rb := Rp.keep r5 kalb
  have Ba5 := Ba.keep t5b
  have ra5 := Rp.keep ra t5b
  have rq5 := Rp.keep rq4 t5b
  have ru5 := Rp.keep ru4 t5b
  have rm5 := Rp.keep rm4 t5b
  have k5 := k4.trans t5b
  obtain ⟨W5, hW5⟩ : ∃ W, W = w5.alloc (.cells #[.int .i64 cb.kind, .slice A1b n1b C1b, .slice A2b n2b C2b, .slice A3b n3b C3b] 32) := ⟨_, rfl⟩
  obtain ⟨b8, hb8⟩ : ∃ b8, b8 = w5.heap.size := ⟨_, rfl⟩
  rw [← hW5] at Bb rb Ba5 ra5 rq5 ru5 rm5 k5 ⊢
  rw [← hb8] at Bb ⊢
  clear hW5 hb8 kalb t5b r5 F5 t5 rq4 ru4 rm4 k4 Ba ra h7
  go_upto_region 8 with (first
    | (go_at_call 9; (with_reducible refine (implLBCert_rd b hbI (.slice am M.length cm) M fM W5 rm5 smM).mono ?_); rintro e w6 ⟨cs6, f6, rfl, r6, F6, t6⟩; obtain ⟨A1c, n1c, C1c, A2c, n2c, C2c, A3c, n3c, C3c, rfl⟩ := cert_form r6)
    | fail "no arm")
  obtain ⟨cc, hcc⟩ : ∃ cc, cc = lbCert b M := ⟨_, rfl⟩
  rw [← hcc] at r6 ⊢
  have kalc : Only [] w6 (w6.alloc (.cells #[.int .i64 cc.kind, .slice A1c n1c C1c, .slice A2c n2c C2c, .slice A3c n3c C3c] 32)) := (Only.refl _ _).alloc _
  have t6c := t6.trans kalc
  have Bc := Blk.new w6 [.int .i64 cc.kind, .slice A1c n1c C1c, .slice A2c n2c C2c, .slice A3c n3c C3c] 32
  have rc := Rp.keep r6 kalc
  have Ba6 := Ba5.keep t6c
  have Bb6 := Bb.keep t6c
  have ra6 := Rp.keep ra5 t6c
  have rb6 := Rp.keep rb t6c
  have rq6 := Rp.keep rq5 t6c
  have ru6 := Rp.keep ru5 t6c
  have rm6 := Rp.keep rm5 t6c
  have k6 := k5.trans t6c
  obtain ⟨W6, hW6⟩ : ∃ W, W = w6.alloc (.cells #[.int .i64 cc.kind, .slice A1c n1c C1c, .slice A2c n2c C2c, .slice A3c n3c C3c] 32) := ⟨_, rfl⟩
  obtain ⟨b9, hb9⟩ : ∃ b9, b9 = w6.heap.size := ⟨_, rfl⟩
  rw [← hW6] at Bc rc Ba6 Bb6 ra6 rb6 rq6 ru6 rm6 k6 ⊢
  rw [← hb9] at Bc ⊢
  clear hW6 hb9 kalc t6c r6 F6 t6 rq5 ru5 rm5 k5 Ba5 ra5 Bb rb
  have c0a := Ba6.cell 0 rfl; have c1a := Ba6.cell 1 rfl; have c2a := Ba6.cell 2 rfl; have c3a := Ba6.cell 3 rfl; have c0b := Bb6.cell 0 rfl; have c1b := Bb6.cell 1 rfl; have c2b := Bb6.cell 2 rfl; have c3b := Bb6.cell 3 rfl; have c0c := Bc.cell 0 rfl; have c1c := Bc.cell 1 rfl; have c2c := Bc.cell 2 rfl; have c3c := Bc.cell 3 rfl
  have Ra6 := Lib.hid ra6; have Rb6 := Lib.hid rb6; have Rc6 := Lib.hid rc
  have HOp := Lib.hid (fun (W : World) (hK : Only [] W6 W) => specOpCert_rd (.slice aq x.length cq) x fq (.slice au L.length cu) L fL W (Rp.keep rq6 hK) (Rp.keep ru6 hK) smL)
  have HSo := Lib.hid (fun (W : World) (hK : Only [] W6 W) => specSolCert_rd (.slice aq x.length cq) x fq W (Rp.keep rq6 hK))
  have HLb := Lib.hid (fun (W : World) (hK : Only [] W6 W) => specLBCert_rd b hbI (.slice am M.length cm) M fM W (Rp.keep rm6 hK) smM)
  rw [← hca] at HOp
  rw [← hcb] at HSo
  rw [← hcc] at HLb
  have Hca := Lib.hid hca
  clear ra6 rb6 rc rq6 ru6 rm6 hca hcb hcc
  go_region_held3 (fun w' => Only [] W6 w' ∧ w'.cell? ⟨b7, 0, none⟩ = some (.int .i64 ca.kind) ∧ w'.cell? ⟨b7, 1, none⟩ = some (.slice A1a n1a C1a) ∧ w'.cell? ⟨b7, 2, none⟩ = some (.slice A2a n2a C2a) ∧ w'.cell? ⟨b7, 3, none⟩ = some (.slice A3a n3a C3a) ∧ w'.cell? ⟨b8, 0, none⟩ = some (.int .i64 cb.kind) ∧ w'.cell? ⟨b8, 1, none⟩ = some (.slice A1b n1b C1b) ∧ w'.cell? ⟨b8, 2, none⟩ = some (.slice A2b n2b C2b) ∧ w'.cell? ⟨b8, 3, none⟩ = some (.slice A3b n3b C3b) ∧ w'.cell? ⟨b9, 0, none⟩ = some (.int .i64 cc.kind) ∧ w'.cell? ⟨b9, 1, none⟩ = some (.slice A1c n1c C1c) ∧ w'.cell? ⟨b9, 2, none⟩ = some (.slice A2c n2c C2c) ∧ w'.cell? ⟨b9, 3, none⟩ = some (.slice A3c n3c C3c)) (((refine and_of ?_ (fun h__ => ⟨h__.cell (by simp) c0a, h__.cell (by simp) c1a, h__.cell (by simp) c2a, h__.cell (by simp) c3a, h__.cell (by simp) c0b, h__.cell (by simp) c1b, h__.cell (by simp) c2b, h__.cell (by simp) c3b, h__.cell (by simp) c0c, h__.cell (by simp) c1c, h__.cell (by simp) c2c, h__.cell (by simp) c3c⟩)); first | exact (Only.refl _ _).drew | exact ((Only.refl _ _).drewN _).drew | exact Only.trans (And.left (by assumption)) (by assumption) | exact Only.alloc (And.left (by assumption)) _ | assumption)) (first | (go_at_call 11; (with_reducible refine (HOp.out _ (And.left (by assumption))).mono ?_); rintro e w7 ⟨cs7, f7, rfl, r7, F7, t7⟩; obtain ⟨A1d, n1d, C1d, A2d, n2d, C2d, A3d, n3d, C3d, rfl⟩ := cert_form r7) | (go_at_call 12; (with_reducible refine (HSo.out _ (And.left (by assumption))).mono ?_); rintro e w9 ⟨cs9, f9, rfl, r9, F9, t9⟩; obtain ⟨A1e, n1e, C1e, A2e, n2e, C2e, A3e, n3e, C3e, rfl⟩ := cert_form r9) | (go_at_call 13; (with_reducible refine (HLb.out _ (And.left (by assumption))).mono ?_); rintro e wB ⟨csB, fB, rfl, rB, FB, tB⟩; obtain ⟨A1f, n1f, C1f, A2f, n2f, C2f, A3f, n3f, C3f, rfl⟩ := cert_form rB) | (go_at_call 10; (with_reducible refine (specSameCertificate_any [.int .i64 ca.kind, .slice A1a n1a C1a, .slice A2a n2a C2a, .slice A3a n3a C3a] [.int .i64 ca.kind, .slice A1d n1d C1d, .slice A2d n2d C2d, .slice A3d n3d C3d] ca ca _ _ _ (Rp.keep Ra6.out (And.left (by assumption))) (Rp.keep r7 (by with_reducible repeat (first | exact Only.refl _ _ | assumption | refine Only.drewN ?_ _ | refine Only.drew ?_ | refine Only.alloc ?_ _ | refine Only.trans ?_ (by assumption))))).mono ?_); rintro e w8 ⟨he, tw8⟩; rw [eqV_yes rfl] at he; subst he) | (go_at_call 10; (with_reducible refine (specSameCertificate_any [.int .i64 cb.kind, .slice A1b n1b C1b, .slice A2b n2b C2b, .slice A3b n3b C3b] [.int .i64 cb.kind, .slice A1e n1e C1e, .slice A2e n2e C2e, .slice A3e n3e C3e] cb cb _ _ _ (Rp.keep Rb6.out (And.left (by assumption))) (Rp.keep r9 (by with_reducible repeat (first | exact Only.refl _ _ | assumption | refine Only.drewN ?_ _ | refine Only.drew ?_ | refine Only.alloc ?_ _ | refine Only.trans ?_ (by assumption))))).mono ?_); rintro e wA ⟨he, twA⟩; rw [eqV_yes rfl] at he; subst he) | (go_at_call 10; (with_reducible refine (specSameCertificate_any [.int .i64 cc.kind, .slice A1c n1c C1c, .slice A2c n2c C2c, .slice A3c n3c C3c] [.int .i64 cc.kind, .slice A1f n1f C1f, .slice A2f n2f C2f, .slice A3f n3f C3f] cc cc _ _ _ (Rp.keep Rc6.out (And.left (by assumption))) (Rp.keep rB (by with_reducible repeat (first | exact Only.refl _ _ | assumption | refine Only.drewN ?_ _ | refine Only.drew ?_ | refine Only.alloc ?_ _ | refine Only.trans ?_ (by assumption))))).mono ?_); rintro e wC ⟨he, twC⟩; rw [eqV_yes rfl] at he; subst he) | fail "no arm")
  have k6C : Only [] W6 wC := And.left (by assumption)
  have BaC := Ba6.keep k6C
  have raC := Rp.keep Ra6.out k6C
  have kC := k6.trans k6C
  have hC := Rp.keep h kC
  clear r7 F7 t7 tw8 r9 F9 t9 twA rB FB tB twC
  go_upto_region 11 with (first
    | (go_at_call 14; (with_reducible refine (drawSame_any v l fc wC hC hl).mono ?_); rintro e wD ⟨c, d, A1x, A2x, A3x, A1y, A2y, A3y, n1x, n2x, n3x, C1x, C2x, C3x, n1y, n2y, n3y, C1y, C2y, C3y, fx, fy, rfl, rx, ry, tD⟩)
    | fail "no arm")
  have kD : Only [] wD ((wD.alloc (.cells #[.int .i64 c.kind, .slice A1x n1x C1x, .slice A2x n2x C2x, .slice A3x n3x C3x] 32)).alloc (.cells #[.int .i64 d.kind, .slice A1y n1y C1y, .slice A2y n2y C2y, .slice A3y n3y C3y] 32)) := ((Only.refl _ _).alloc _).alloc _
  have Bx := (Blk.new wD [.int .i64 c.kind, .slice A1x n1x C1x, .slice A2x n2x C2x, .slice A3x n3x C3x] 32).keep ((Only.refl _ _).alloc (.cells #[.int .i64 d.kind, .slice A1y n1y C1y, .slice A2y n2y C2y, .slice A3y n3y C3y] 32))
  have By := Blk.new (wD.alloc (.cells #[.int .i64 c.kind, .slice A1x n1x C1x, .slice A2x n2x C2x, .slice A3x n3x C3x] 32)) [.int .i64 d.kind, .slice A1y n1y C1y, .slice A2y n2y C2y, .slice A3y n3y C3y] 32
  have eY : (wD.alloc (.cells #[.int .i64 c.kind, .slice A1x n1x C1x, .slice A2x n2x C2x, .slice A3x n3x C3x] 32)).heap.size = wD.heap.size + 1 := by simp
  rw [eY] at By
  have rxD := Rp.keep rx kD
  have ryD := Rp.keep ry kD
  have BaD := (BaC.keep tD).keep kD
  have raD := Rp.keep (Rp.keep raC tD) kD
  have kW := (kC.trans tD).trans kD
  obtain ⟨W9, hW9⟩ : ∃ W, W = ((wD.alloc (.cells #[.int .i64 c.kind, .slice A1x n1x C1x, .slice A2x n2x C2x, .slice A3x n3x C3x] 32)).alloc (.cells #[.int .i64 d.kind, .slice A1y n1y C1y, .slice A2y n2y C2y, .slice A3y n3y C3y] 32)) := ⟨_, rfl⟩
  obtain ⟨bx, hbx⟩ : ∃ bx, bx = wD.heap.size := ⟨_, rfl⟩
  obtain ⟨bY, hbY⟩ : ∃ bY, bY = wD.heap.size + 1 := ⟨_, rfl⟩
  try rw [eY]
  rw [← hW9] at Bx By rxD ryD BaD raD kW ⊢
  rw [← hbY] at By ⊢
  rw [← hbx] at Bx ⊢
  clear hW9 hbx hbY eY kD rx ry BaC raC tD kC hC Ba6 Bb6 Bc Ra6 Rb6 Rc6 HOp HSo HLb k6 k6C
  have p0 := Bx.cell 0 rfl; have p1 := Bx.cell 1 rfl; have p2 := Bx.cell 2 rfl; have p3 := Bx.cell 3 rfl
  have q0 := By.cell 0 rfl; have q1 := By.cell 1 rfl; have q2 := By.cell 2 rfl; have q3 := By.cell 3 rfl
  have Rx := Lib.hid rxD; have Ry := Lib.hid ryD
  obtain ⟨Bq, hBq⟩ : ∃ B, eqV c d = B := ⟨_, rfl⟩
  have HB := Lib.hid hBq
  clear rxD ryD hBq
  obtain ⟨g1, g2, g3, -, -, -, hwa, -⟩ := cert_parts raD
  have hn2 := rd_len hwa
  have hkk := op_kinds x L
  rw [← Hca.out] at hkk
  clear hwa
  rcases hkk with ⟨hk, hn⟩ | ⟨hk, hn⟩
  · rw [hn] at hn2
    subst hn2
    rw [hk] at BaD raD
    clear hk hn
    have a0 := BaD.cell 0 rfl; have a1 := BaD.cell 1 rfl; have a2 := BaD.cell 2 rfl; have a3 := BaD.cell 3 rfl
    have Ra := Lib.hid raD
    clear raD
    go_region_held3 (fun w' => Only [] W9 w' ∧ w'.cell? ⟨bx, 0, none⟩ = some (.int .i64 c.kind) ∧ w'.cell? ⟨bx, 1, none⟩ = some (.slice A1x n1x C1x) ∧ w'.cell? ⟨bx, 2, none⟩ = some (.slice A2x n2x C2x) ∧ w'.cell? ⟨bx, 3, none⟩ = some (.slice A3x n3x C3x) ∧ w'.cell? ⟨bY, 0, none⟩ = some (.int .i64 d.kind) ∧ w'.cell? ⟨bY, 1, none⟩ = some (.slice A1y n1y C1y) ∧ w'.cell? ⟨bY, 2, none⟩ = some (.slice A2y n2y C2y) ∧ w'.cell? ⟨bY, 3, none⟩ = some (.slice A3y n3y C3y) ∧ w'.cell? ⟨b7, 0, none⟩ = some (.int .i64 2) ∧ w'.cell? ⟨b7, 1, none⟩ = some (.slice A1a n1a C1a) ∧ w'.cell? ⟨b7, 2, none⟩ = some (.slice A2a 1 C2a) ∧ w'.cell? ⟨b7, 3, none⟩ = some (.slice A3a n3a C3a)) (((refine and_of ?_ (fun h__ => ⟨h__.cell (by simp) p0, h__.cell (by simp) p1, h__.cell (by simp) p2, h__.cell (by simp) p3, h__.cell (by simp) q0, h__.cell (by simp) q1, h__.cell (by simp) q2, h__.cell (by simp) q3, h__.cell (by simp) a0, h__.cell (by simp) a1, h__.cell (by simp) a2, h__.cell (by simp) a3⟩)); first | exact (Only.refl _ _).drew | exact ((Only.refl _ _).drewN _).drew | exact Only.trans (And.left (by assumption)) (by assumption) | exact Only.alloc (And.left (by assumption)) _ | assumption)) (first | (go_at_call 15; (with_reducible refine (implSameCertificate_any [.int .i64 c.kind, .slice A1x n1x C1x, .slice A2x n2x C2x, .slice A3x n3x C3x] [.int .i64 d.kind, .slice A1y n1y C1y, .slice A2y n2y C2y, .slice A3y n3y C3y] c d _ _ _ (Rp.keep Rx.out (And.left (by assumption))) (Rp.keep Ry.out (And.left (by assumption)))).mono ?_); rintro e wE ⟨he, tE⟩; rw [HB.out] at he; subst he) | (go_at_call 10; (with_reducible refine (specSameCertificate_any [.int .i64 c.kind, .slice A1x n1x C1x, .slice A2x n2x C2x, .slice A3x n3x C3x] [.int .i64 d.kind, .slice A1y n1y C1y, .slice A2y n2y C2y, .slice A3y n3y C3y] c d _ _ _ (Rp.keep Rx.out (And.left (by assumption))) (Rp.keep Ry.out (And.left (by assumption)))).mono ?_); rintro e wF ⟨he, tF⟩; rw [HB.out] at he; subst he) | (go_at_call 15; (with_reducible refine (implSameCertificate_any [.int .i64 2, .slice A1a n1a C1a, .slice A2a 1 C2a, .slice A3a n3a C3a] [.int .i64 2, .slice A1a n1a C1a, .slice A2a 1 C2a, .slice A3a n3a C3a] ca ca _ _ _ (Rp.keep Ra.out (And.left (by assumption))) (Rp.keep Ra.out (And.left (by assumption)))).mono ?_); rintro e wG ⟨he, tG⟩; rw [eqV_yes rfl] at he; subst he) | fail "no arm")
    go_wp2
    go_ret
    refine ⟨?_, kW.trans (by with_reducible exact And.left (by assumption))⟩
    first
      | rfl
      | exact ret_bool (by simp)
  · rw [hn] at hn2
    subst hn2
    rw [hk] at BaD raD
    clear hk hn
    have a0 := BaD.cell 0 rfl; have a1 := BaD.cell 1 rfl; have a2 := BaD.cell 2 rfl; have a3 := BaD.cell 3 rfl
    have Ra := Lib.hid raD
    clear raD
    go_region_held3 (fun w' => Only [] W9 w' ∧ w'.cell? ⟨bx, 0, none⟩ = some (.int .i64 c.kind) ∧ w'.cell? ⟨bx, 1, none⟩ = some (.slice A1x n1x C1x) ∧ w'.cell? ⟨bx, 2, none⟩ = some (.slice A2x n2x C2x) ∧ w'.cell? ⟨bx, 3, none⟩ = some (.slice A3x n3x C3x) ∧ w'.cell? ⟨bY, 0, none⟩ = some (.int .i64 d.kind) ∧ w'.cell? ⟨bY, 1, none⟩ = some (.slice A1y n1y C1y) ∧ w'.cell? ⟨bY, 2, none⟩ = some (.slice A2y n2y C2y) ∧ w'.cell? ⟨bY, 3, none⟩ = some (.slice A3y n3y C3y) ∧ w'.cell? ⟨b7, 0, none⟩ = some (.int .i64 0) ∧ w'.cell? ⟨b7, 1, none⟩ = some (.slice A1a n1a C1a) ∧ w'.cell? ⟨b7, 2, none⟩ = some (.slice A2a 0 C2a) ∧ w'.cell? ⟨b7, 3, none⟩ = some (.slice A3a n3a C3a)) (((refine and_of ?_ (fun h__ => ⟨h__.cell (by simp) p0, h__.cell (by simp) p1, h__.cell (by simp) p2, h__.cell (by simp) p3, h__.cell (by simp) q0, h__.cell (by simp) q1, h__.cell (by simp) q2, h__.cell (by simp) q3, h__.cell (by simp) a0, h__.cell (by simp) a1, h__.cell (by simp) a2, h__.cell (by simp) a3⟩)); first | exact (Only.refl _ _).drew | exact ((Only.refl _ _).drewN _).drew | exact Only.trans (And.left (by assumption)) (by assumption) | exact Only.alloc (And.left (by assumption)) _ | assumption)) (first | (go_at_call 15; (with_reducible refine (implSameCertificate_any [.int .i64 c.kind, .slice A1x n1x C1x, .slice A2x n2x C2x, .slice A3x n3x C3x] [.int .i64 d.kind, .slice A1y n1y C1y, .slice A2y n2y C2y, .slice A3y n3y C3y] c d _ _ _ (Rp.keep Rx.out (And.left (by assumption))) (Rp.keep Ry.out (And.left (by assumption)))).mono ?_); rintro e wE ⟨he, tE⟩; rw [HB.out] at he; subst he) | (go_at_call 10; (with_reducible refine (specSameCertificate_any [.int .i64 c.kind, .slice A1x n1x C1x, .slice A2x n2x C2x, .slice A3x n3x C3x] [.int .i64 d.kind, .slice A1y n1y C1y, .slice A2y n2y C2y, .slice A3y n3y C3y] c d _ _ _ (Rp.keep Rx.out (And.left (by assumption))) (Rp.keep Ry.out (And.left (by assumption)))).mono ?_); rintro e wF ⟨he, tF⟩; rw [HB.out] at he; subst he) | (go_at_call 15; (with_reducible refine (implSameCertificate_any [.int .i64 0, .slice A1a n1a C1a, .slice A2a 0 C2a, .slice A3a n3a C3a] [.int .i64 0, .slice A1a n1a C1a, .slice A2a 0 C2a, .slice A3a n3a C3a] ca ca _ _ _ (Rp.keep Ra.out (And.left (by assumption))) (Rp.keep Ra.out (And.left (by assumption)))).mono ?_); rintro e wG ⟨he, tG⟩; rw [eqV_yes rfl] at he; subst he) | fail "no arm")
    go_wp2
    go_ret
    refine ⟨?_, kW.trans (by with_reducible exact And.left (by assumption))⟩
    first
      | rfl
      | exact ret_bool (by simp)
end Go.Proofs.YtlbcjkjoapcppaaGreat
