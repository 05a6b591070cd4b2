/- The reference's smallest optimal word (laws 20, 38). The word of the first phase, by the reference (laws 46, 51, 57, 58). The program's smallest optimal word (law 38). The program's way down by distances; the distances to a goal (laws 41, 46, 51, 57, 58). -/
import Derived.Test.YtclhblofchfglaaGreatRowTwoPhaseCertifiedG13
import Derived.Test.YtclhblofchfglaaGreatRowTwoPhaseCertifiedG11
import Derived.Test.YtclhblofchfglaaGreatRowTwoPhaseCertifiedG12
import Derived.Test.YtclhblofchfglaaGreatRowTwoPhaseCertifiedG9
import Derived.Deep.RegionHeld3
import Derived.Test.YtclhblofchfglaaGreatRowTwoPhaseCertifiedG17
import Derived.Test.YtclhblofchfglaaGreatRowTwoPhaseCertifiedG16
import Derived.Deep.RegionLaw
namespace Go.Proofs.YtclhblofchfglaaGreat
open Go.RowKit
set_option maxRecDepth 10000

/-- the way down from a state: the word so far (o), the state at hand (s2) -/
structure DWn (x : Puzzle) (t : Table) (w W0 : World) (e : TypeId) (G : List Nat) (wr : World) (o s2 : Value) (dn : List Int) (i : Nat) (f2 : List Nat) : Prop where
  acc : AccI w.heap.size e wr o dn
  rd : Rd wr s2 (t.patterns.getD i []) f2
  ap : ∀ b ∈ f2, o.ownBlock ≠ some b
  on : Only [] w wr
  kp : ∀ b ∈ G, wr.heap[b]? = W0.heap[b]?
  ga : ∀ b ∈ G, o.ownBlock ≠ some b
  gl : ∀ b ∈ G, b < wr.heap.size
section
variable {x : Puzzle} {t : Table} {w W0 : World} {e : TypeId} {G : List Nat} {wr w' : World} {o s2 : Value} {dn : List Int} {i : Nat} {f2 : List Nat}
theorem DWn.keep (h : DWn x t w W0 e G wr o s2 dn i f2) (ho : Only [] wr w') : DWn x t w W0 e G w' o s2 dn i f2 :=
  ⟨h.acc.keep ho, Rp.keep h.rd ho, h.ap, h.on.trans ho, fun b hb => (ho.block b (h.gl b hb) (by simp)).trans (h.kp b hb), h.ga, fun b hb => Nat.lt_of_lt_of_le (h.gl b hb) ho.size⟩
theorem DWn.old (h : DWn x t w W0 e G wr o s2 dn i f2) {β : Type} [Rp β] {cs : List Value} {y : β} {fp : List Nat} (hr : Rp.rep W0 cs y fp) (hf : ∀ b ∈ fp, b ∈ G) : Rp.rep wr cs y fp := Rp.frame hr fun b hb => h.kp b (hf b hb)
theorem DWn.blk (h : DWn x t w W0 e G wr o s2 dn i f2) {g : Nat} {cs : List Value} (hb : Blk W0 g cs) (hg : g ∈ G) : Blk wr g cs := by
  obtain ⟨ty, hb⟩ := hb
  exact ⟨ty, (h.kp g hg).trans hb⟩
theorem DWn.ints (h : DWn x t w W0 e G wr o s2 dn i f2) {a : Option Addr} {c : Nat} {l : List Int} {fp : List Nat} (hr : IntsA W0 a c l fp) (hf : ∀ b ∈ fp, b ∈ G) : IntsA wr a c l fp := hr.frame fun b hb => h.kp b (hf b hb)
theorem DWn.step {wa wb : World} {o' s3 : Value} {l : Int} {j : Nat} {f3 : List Nat} (h : DWn x t w W0 e G wr o s2 dn i f2) (hk : Only [] wr wa) (hA : AccI w.heap.size e wb o' (dn ++ [l])) (oA : Only o.ownBlock.toList wa wb) (nA : o'.ownBlock = o.ownBlock ∨ o'.ownBlock = some wa.heap.size)
    (hP : ∀ wz, Only [] wz wa → wz.heap.size ≤ w.heap.size → Only [] wz wb) (hr : Rd wa s3 (t.patterns.getD j []) f3) (hf : ∀ b ∈ f3, o.ownBlock ≠ some b) : DWn x t w W0 e G wb o' s3 (dn ++ [l]) j f3 := by
  have h1 := h.keep hk
  refine ⟨hA, Rp.only hr oA (fun b hb hm => hf b hb (by simpa using hm)), fun b hb => own_after nA (hf b hb) (Rp.lt hr b hb), hP w h1.on (Nat.le_refl _), fun b hb => ?_, fun b hb => own_after nA (h1.ga b hb) (h1.gl b hb), fun b hb => Nat.lt_of_lt_of_le (h1.gl b hb) oA.size⟩
  rw [oA.block b (h1.gl b hb) (fun hm => h1.ga b hb (by simpa using hm))]
  exact h1.kp b hb
end
theorem depT_at {x : Puzzle} {t : Table} (hb : Built x t) {i : Nat} (hi : i < t.patterns.length) {s : List Int} (h : t.patterns.getD i [] = s) : depT t s = t.distances.getD i 0 := by
  rw [← h]; exact depT_yes hb hi
set_option maxHeartbeats 8000000 in
theorem descendWord_any (cs : List Value) (x : Puzzle) (fp : List Nat) (t : Table) (B : Nat) (A1 A2 A3 : Option Addr) (n1 n2 n3 C1 C2 C3 : Nat) (wh : Bool) (u : Value) (fu : List Nat) (i0 N : Nat) (w : World) (h : Rp.rep w cs x fp)
    (hS : SrF B w x t (.agg #[.slice A1 n1 C1, .slice A2 n2 C2, .slice A3 n3 C3, .bool wh])) (he : expl x = some t) (hi0 : i0 < t.patterns.length) (hu : Rd w u (t.patterns.getD i0 []) fu) (hN : t.distances.getD i0 0 = N) :
    Calls Tryz.prog 84 #[.agg cs.toArray, .agg #[.slice A1 n1 C1, .slice A2 n2 C2, .slice A3 n3 C3, .bool wh], u] w fun e w' => ∃ v fp', e = .returned v ∧ Rd w' v (oW x t N (t.patterns.getD i0 [])) fp' ∧ Fresh w.heap.size w' fp' ∧ Only [] w w' := by
  have h0 := h
  obtain ⟨v2, rfl, p0, p1, h2⟩ := h
  clear p0 p1 h2
  obtain ⟨hb, -⟩ := expl_built he
  obtain ⟨q1, q20, q8, -⟩ := validPz_facts hb.v
  have hdep := (hb.dep i0 hi0).2.1
  have hll := hb.ll
  have hN3 : N ≤ 3000 := by omega
  have Hb := Lib.hid hb
  have He := Lib.hid he
  have Hd0 := Lib.hid ((depT_at hb hi0 rfl).trans hN)
  have Hl0 := Lib.hid (expl_len1 he hi0)
  have HN := Lib.hid hN
  clear he hN hb hdep
  have X0 : Blk (((w.alloc (.cells #[.int .i64 x.points, .string x.names, v2] 33)).alloc (.cells #[.slice A1 n1 C1, .slice A2 n2 C2, .slice A3 n3 C3, .bool wh] 85)).alloc (.cells #[] 2)) w.heap.size [.int .i64 x.points, .string x.names, v2] := ((Blk.new w [.int .i64 x.points, .string x.names, v2] 33).keep ((Only.refl _ _).alloc _)).keep ((Only.refl _ _).alloc _)
  have Y0 : Blk (((w.alloc (.cells #[.int .i64 x.points, .string x.names, v2] 33)).alloc (.cells #[.slice A1 n1 C1, .slice A2 n2 C2, .slice A3 n3 C3, .bool wh] 85)).alloc (.cells #[] 2)) (w.heap.size + 1) [.slice A1 n1 C1, .slice A2 n2 C2, .slice A3 n3 C3, .bool wh] := (Blk.new_at (w := w.alloc (.cells #[.int .i64 x.points, .string x.names, v2] 33)) (cs := [.slice A1 n1 C1, .slice A2 n2 C2, .slice A3 n3 C3, .bool wh]) (by simp)).keep ((Only.refl _ _).alloc _)
  obtain ⟨iI, hi, hz0, hz1, hz2⟩ := info_parts Tryz.info2
  obtain ⟨s0, hs0⟩ : ∃ s0, s0 = t.patterns.getD i0 [] := ⟨_, rfl⟩
  rw [← hs0] at Hd0 Hl0 hu
  have Hs0 := Lib.hid hs0
  rw [← hs0]
  clear hs0
  go_enter Tryz.func84, Tryz.ntmps84
  go_wp2_with (first
    | (go_at_call 127; (with_reducible refine (lettersOf_any [.int .i64 x.points, .string x.names, v2] x _ _ (Rp.keep h0 (by with_reducible repeat (first | exact Only.refl _ _ | assumption | refine Only.drewN ?_ _ | refine Only.drew ?_ | refine Only.alloc ?_ _ | refine Only.setCell ?_ (by intro hh; exfalso; simp at hh; try omega) _ | refine Only.trans ?_ (by assumption)))) (by omega)).mono ?_); rintro e w1 ⟨u1, f1, rfl, r1, F1, t1⟩; obtain ⟨a1, c1, rfl, I1⟩ := r1.ints; have Y1 := Y0.keep t1; have y0 := Y1.cell 0 rfl; have y1 := Y1.cell 1 rfl; have y2 := Y1.cell 2 rfl; have y3 := Y1.cell 3 rfl)
    | (go_at_call 134; (with_reducible refine (depthOf_any x t _ u s0 fu _ (SrF.keep hS (by with_reducible repeat (first | exact Only.refl _ _ | assumption | refine Only.drewN ?_ _ | refine Only.drew ?_ | refine Only.alloc ?_ _ | refine Only.setCell ?_ (by intro hh; exfalso; simp at hh; try omega) _ | refine Only.trans ?_ (by assumption)))) Hb.out (Rp.keep hu (by with_reducible repeat (first | exact Only.refl _ _ | assumption | refine Only.drewN ?_ _ | refine Only.drew ?_ | refine Only.alloc ?_ _ | refine Only.setCell ?_ (by intro hh; exfalso; simp at hh; try omega) _ | refine Only.trans ?_ (by assumption)))) Hl0.out).mono ?_); rintro e w2 ⟨he, t2⟩; rw [Hd0.out] at he; subst he)
    | fail "no arm")
  have K2 : Only [] w w2 := (by with_reducible repeat (first | exact Only.refl _ _ | assumption | refine Only.drewN ?_ _ | refine Only.drew ?_ | refine Only.alloc ?_ _ | refine Only.setCell ?_ (by intro hh; exfalso; simp at hh; try omega) _ | refine Only.trans ?_ (by assumption)))
  have X2 := (X0.keep t1).keep t2
  have Y2 := Y1.keep t2
  have I2 := I1.keep t2
  have hz1s := t1.size
  have hz2s := t2.size
  simp at hz1s
  obtain ⟨ls, hls⟩ : ∃ ls, ls = ltrs x.moves.length := ⟨_, rfl⟩
  rw [← hls] at I2 ⊢
  have Hls := Lib.hid hls
  have hf1 := F1.ge
  have hf1l := I2.lt
  have A0 : AccI w.heap.size 2 w2 (.slice (some ⟨w.heap.size + 2, 0, none⟩) 0 0) [] := ((AccI.made ((w.alloc (.cells #[.int .i64 x.points, .string x.names, v2] 33)).alloc (.cells #[.slice A1 n1 C1, .slice A2 n2 C2, .slice A3 n3 C3, .bool wh] 85)) w.heap.size 2 (by simp) (by omega)).keep t1).keep t2
  have D0 : DWn x t w w2 2 (f1 ++ [w.heap.size, w.heap.size + 1]) w2 (.slice (some ⟨w.heap.size + 2, 0, none⟩) 0 0) u [] i0 fu := by
    refine ⟨A0, by rw [← Hs0.out]; exact Rp.keep hu K2, fun b hb he => ?_, K2, fun _ _ => rfl, fun b hb he => ?_, fun b hb => ?_⟩
    · have := Rp.lt hu b hb; simp [Value.ownBlock] at he; omega
    · simp [Value.ownBlock] at he
      simp only [List.mem_append, List.mem_cons, List.not_mem_nil, or_false] at hb
      rcases hb with hb | hb | hb
      · have := hf1 b hb; simp at this; omega
      · omega
      · omega
    · simp only [List.mem_append, List.mem_cons, List.not_mem_nil, or_false] at hb
      rcases hb with hb | hb | hb
      · exact hf1l b hb
      · omega
      · omega
  clear X0 Y0 Y1 y0 y1 y2 y3 r1 F1 I1 A0 hls t1 t2 hz1s hf1 hf1l
  go_loopw [2, 7, 9] (fun s2 o d wr => ∃ (n i : Nat) (f2 : List Nat) (dn : List Int), d = .int .i64 n ∧ n ≤ 3000 ∧ dn.length + n = N ∧ i < t.patterns.length ∧ t.distances.getD i 0 = n ∧ dn ++ oW x t n (t.patterns.getD i []) = oW x t N s0 ∧ DWn x t w w2 2 (f1 ++ [w.heap.size, w.heap.size + 1]) wr o s2 dn i f2)
    (fun _ _ d _ => (intOf d).toNat)
  case atStart => exact ⟨N, i0, fu, [], rfl, hN3, by simp, hi0, HN.out, by rw [Hs0.out]; rfl, D0⟩
  case round =>
    obtain ⟨W3, hnew⟩ : ∃ W, W = wr := ⟨_, rfl⟩
    subst hnew
    obtain ⟨n, i, f2, dn, rfl, hn3, hlen, hil, hdi, hcat, hD⟩ := hrel
    have Hcat := Lib.hid hcat
    have Hdi := Lib.hid hdi
    have Hlen := Lib.hid hlen
    clear hcat hdi hlen
    by_cases hn : 0 < n
    · obtain ⟨m, hm⟩ : ∃ m, n = m + 1 := ⟨n - 1, by omega⟩
      have hm1 : m + 1 ≤ n := by omega
      have hm2 : n ≤ m + 1 := by omega
      have Hm := Lib.hid hm
      obtain ⟨k, j, hDn⟩ := Hb.out.down hil (n := m) (by rw [Hdi.out, hm]; push_cast; rfl)
      clear hm
      have hkl : k < ls.length := by rw [Hls.out]; exact hDn.hk
      have HDn := Lib.hid hDn
      clear hDn
      go_wp2
      go_loopw [2, 7, 10] (fun s2 o c wr => ∃ j' : Nat, j' ≤ k ∧ c = .int .i64 j' ∧ s2 = u2 ∧ o = u7 ∧ Only [] W3 wr)
        (fun _ _ c _ => ls.length - (intOf c).toNat)
      case atStart => exact ⟨0, Nat.zero_le _, rfl, rfl, rfl, Only.refl _ _⟩
      case round =>
        obtain ⟨j', hj', rfl, rfl, rfl, hK⟩ := hrel
        obtain ⟨W4, hnew⟩ : ∃ W, W = wr := ⟨_, rfl⟩
        subst hnew
        have hD4 := hD.keep hK
        have hjl : j' < ls.length := by omega
        have I4 := hD4.ints I2 (by intro b hb; simp [hb])
        have hlb := I4.bound
        obtain ⟨b3, off3, rfl, -, hc3⟩ := I4.at_ j' hjl
        have X4 := hD4.blk X2 (by simp)
        have Y4 := hD4.blk Y2 (by simp)
        have x0 := X4.cell 0 rfl
        have x1 := X4.cell 1 rfl
        have x2 := X4.cell 2 rfl
        have hrd := hD4.rd
        have K4 := hD4.on
        have hla : ls[j'] ∈ ltrs x.moves.length := by rw [← Hls.out]; exact List.getElem_mem hjl
        obtain ⟨i', hi', hnx, -, -⟩ := Hb.out.step hil hla
        have hpat := expl_pat He.out hil
        have Hrng := Lib.hid (patB_iff.1 hpat).2.1
        have hql : (t.patterns.getD i []).length ≤ 1000 := by rw [expl_len1 He.out hil]; omega
        have hI : I64 ls[j'] := by have := mem_ltrs.1 hla; unfold I64; omega
        have HI := Lib.hid hI
        have Hla := Lib.hid hla
        obtain ⟨cur, hcur⟩ : ∃ cur, cur = t.patterns.getD i [] := ⟨_, rfl⟩
        have Hcur := Lib.hid hcur
        rw [← hcur] at hrd hql hnx
        rw [← hcur] at Hrng
        clear hpat hla hI hcur
        have Hc := Lib.hid (fun (W : World) (hh : Only [] W4 W) => applyLetter_any [.int .i64 x.points, .string x.names, v2] x _ u2 cur _ ls[j'] W (Rp.keep h0 (K4.trans hh)) (Rp.keep hrd hh) Hb.out.v Hla.out Hrng.out hql)
        go_wp2
        go_region_held3 (fun w' => Only [] W4 w' ∧ w'.cell? ⟨w.heap.size, 0, none⟩ = some (.int .i64 x.points) ∧ w'.cell? ⟨w.heap.size, 1, none⟩ = some (.string x.names) ∧ w'.cell? ⟨w.heap.size, 2, none⟩ = some (v2) ∧ w'.cell? ⟨b3, off3 + j', none⟩ = some (.int .i64 ls[j'])) (((refine and_of ?_ (fun h__ => ⟨h__.cell (by simp) x0, h__.cell (by simp) x1, h__.cell (by simp) x2, h__.cell (by simp) hc3⟩)); first | exact (Only.refl _ _).drew | exact ((Only.refl _ _).drewN _).drew | exact Only.trans (And.left (by assumption)) (by assumption) | exact Only.alloc (And.left (by assumption)) _ | assumption)) (first | (go_at_call 128; (with_reducible refine (Hc.out _ (And.left (by assumption))).mono ?_); rintro e w5 ⟨u5, f5, rfl, r5, F5, t5⟩; have F5' := F5.mono (((Only.refl [] W4).trans (And.left (by assumption))).size)) | fail "no arm")
        have k5 : Only [] W4 w5 := (Only.refl [] W4).trans (And.left (by assumption))
        obtain ⟨s', hs'⟩ : ∃ s', s' = nxt x cur ls[j'] := ⟨_, rfl⟩
        rw [← hs'] at r5 hnx
        have Hl' := Lib.hid (show s'.length = x.points.toNat by rw [← hnx]; exact expl_len1 He.out hi')
        have hd' : depT t s' = t.distances.getD i' 0 := depT_at Hb.out hi' hnx
        have hS5 := SrF.keep hS (K4.trans k5)
        have Y5 := Y4.keep k5
        have y0 := Y5.cell 0 rfl
        have y1 := Y5.cell 1 rfl
        have y2 := Y5.cell 2 rfl
        have y3 := Y5.cell 3 rfl
        have I5 := I4.keep k5
        obtain ⟨b3', off3', e3, -, hc5⟩ := I5.at_ j' hjl
        injection e3 with e3; injection e3 with e3 e4; subst e3; subst e4
        have hD5 := hD4.keep k5
        have Hs' := Lib.hid hs'
        have Hnx := Lib.hid hnx
        have Hd' := Lib.hid hd'
        clear x0 x1 x2 hc3 X4 Y4 I4 Hc hrd hs' hnx hd'
        by_cases hjk : j' = k
        · subst hjk
          have hjj : t.patterns.getD j [] = s' := by rw [HDn.out.nx, Hs'.out, Hcur.out]; simp [Hls.out]
          have Hjj := Lib.hid hjj
          have Hdm := Lib.hid ((depT_at Hb.out HDn.out.hj hjj).trans HDn.out.ds : depT t s' = m)
          clear hjj
          have hdl : dn.length + 1 ≤ 1073741824 := by have := Hlen.out; omega
          have hcmp : ((m : Int) == (n : Int) - 1) = true := by simp; omega
          go_wp2_with (first
            | (go_at_call 134; (with_reducible refine (depthOf_any x t _ u5 s' f5 _ hS5 Hb.out (Rp.keep r5 (by with_reducible repeat (first | exact Only.refl _ _ | assumption | refine Only.drewN ?_ _ | refine Only.drew ?_ | refine Only.alloc ?_ _ | refine Only.setCell ?_ (by intro hh; exfalso; simp at hh; try omega) _ | refine Only.trans ?_ (by assumption)))) Hl'.out).mono ?_); rintro e w6 ⟨he, t6⟩; rw [Hdm.out] at he; subst he; have hc6 := t6.cell (by simp) hc5; have hD6 := hD5.keep t6; have hB6 := hD6.on.size)
            | (at_builtin; refine wpList_pushI rfl _ _ 25 rfl w.heap.size 2 iI _ Tryz.underlying25 hi hz0 hz1 hz2 rfl w6 _ dn rfl hD6.acc ((Only.refl _ _).alloc _) hB6 w6.heap.size 1 ls[j'] rfl (lit1 w6 _ _ rfl) HI.out hdl ?_; intro v9 w9 hA9 hO9 hP9 hN9)
            | fail "no arm")
          have hf5 : ∀ b ∈ f5, u7.ownBlock ≠ some b := fun b hb he => by
            obtain ⟨fs7, hA7⟩ := hD4.acc
            have := (hA7.ownlt b he).2
            have := F5'.ge b hb
            omega
          have hD9 := DWn.step hD6 ((Only.refl _ _).alloc _) hA9 hO9 hN9 hP9 (j := j) (Rp.keep (Rp.keep (show Rd w5 u5 (t.patterns.getD j []) f5 by rw [Hjj.out]; exact r5) t6) ((Only.refl _ _).alloc _)) hf5
          exact ⟨⟨m, j, f5, dn ++ [ls[j']], by congr 1; omega, by omega, by have := Hlen.out; simp; omega, HDn.out.hj, HDn.out.ds, by rw [← Hcat.out, Hm.out, HDn.out.oW_]; simp [Hls.out], hD9⟩, by simp [intOf]; omega⟩
        · have hne := (HDn.out.no j' (by omega) i' hi' (by rw [Hnx.out, Hs'.out, Hcur.out]; simp [Hls.out])).1
          have hdr := Hb.out.dep i' hi'
          obtain ⟨d', hd9⟩ : ∃ d', d' = t.distances.getD i' 0 := ⟨_, rfl⟩
          rw [← hd9] at hne hdr
          have Hdd := Lib.hid (Hd'.out.trans hd9.symm)
          have hcmp : (d' == (n : Int) - 1) = false := by simp; omega
          clear hd9 hne hdr
          go_wp2_with (first
            | (go_at_call 134; (with_reducible refine (depthOf_any x t _ u5 s' f5 _ hS5 Hb.out (Rp.keep r5 (by with_reducible repeat (first | exact Only.refl _ _ | assumption | refine Only.drewN ?_ _ | refine Only.drew ?_ | refine Only.alloc ?_ _ | refine Only.setCell ?_ (by intro hh; exfalso; simp at hh; try omega) _ | refine Only.trans ?_ (by assumption)))) Hl'.out).mono ?_); rintro e w6 ⟨he, t6⟩; rw [Hdd.out] at he; subst he)
            | fail "no arm")
          go_roundw
          case rel => exact ⟨j' + 1, by omega, by go_num, rfl, rfl, hK.trans (k5.trans t6)⟩
          case measure => simp [intOf]; omega
    · obtain rfl : n = 0 := by omega
      have hfin : dn = oW x t N s0 := by have := Hcat.out; rwa [show oW x t 0 (t.patterns.getD i []) = [] from rfl, List.append_nil] at this
      have Hfin := Lib.hid hfin
      clear hfin
      go_wp2
      go_ret
      exact ⟨_, _, rfl, by rw [← Hfin.out]; exact hD.acc.rd, hD.acc.fresh, hD.on⟩
theorem empty_rd (w : World) (e : TypeId) {g : Nat} (hg : g = w.heap.size) : Rd (w.alloc (.cells #[] e)) (.slice (some ⟨g, 0, none⟩) 0 0) ([] : List Int) [g] ∧ Fresh w.heap.size (w.alloc (.cells #[] e)) [g] := by
  subst hg
  exact ⟨(AccI.made w w.heap.size e rfl (Nat.le_refl _)).rd, (AccI.made w w.heap.size e rfl (Nat.le_refl _)).fresh⟩
end Go.Proofs.YtclhblofchfglaaGreat

namespace Go.Proofs.YtclhblofchfglaaGreat
open Go.RowKit
set_option maxRecDepth 10000

set_option maxHeartbeats 8000000 in
theorem phaseOneWord_any (cs : List Value) (x : Puzzle) (fp : List Nat) (t : Table) (src : List Int → Bool) (B : Nat) (A1 A2 A3 : Option Addr) (n1 n2 n3 C1 C2 C3 : Nat) (wh : Bool) (vd : Value) (fd : List Nat) (u : Value) (fu : List Nat) (i0 N : Nat) (w : World) (h : Rp.rep w cs x fp)
    (hS : SrF B w x t (.agg #[.slice A1 n1 C1, .slice A2 n2 C2, .slice A3 n3 C3, .bool wh])) (he : expl x = some t) (h0s : src t.tracked = true) (hvd : Rd w vd (mD x t src) fd) (hi0 : i0 < t.patterns.length) (hu : Rd w u (t.patterns.getD i0 []) fu) (hN : (mD x t src).getD i0 0 = N) (hN3 : N ≤ 3000) :
    Calls Tryz.prog 72 #[.agg cs.toArray, .agg #[.slice A1 n1 C1, .slice A2 n2 C2, .slice A3 n3 C3, .bool wh], vd, u] w fun e w' => ∃ v fp', e = .returned v ∧ Rd w' v (oW x (tD x t src) N (t.patterns.getD i0 [])) fp' ∧ Fresh w.heap.size w' fp' ∧ Only [] w w' := by
  have h0 := h
  obtain ⟨v2, rfl, p0, p1, h2⟩ := h
  clear p0 p1 h2
  obtain ⟨hb, -⟩ := expl_built he
  obtain ⟨q1, q20, q8, -⟩ := validPz_facts hb.v
  have hll := hb.ll
  obtain ⟨aD, cD, rfl, ID⟩ := hvd.ints
  have hbD := ID.bound
  have hlD : (mD x t src).length = t.patterns.length := (mD_F hb).dl
  obtain ⟨D, hDe⟩ : ∃ D, D = mD x t src := ⟨_, rfl⟩
  have HDe := Lib.hid hDe
  rw [← hDe] at ID hlD hbD hN ⊢
  have HlD := Lib.hid hlD
  have Hb := Lib.hid hb
  have He := Lib.hid he
  have HN := Lib.hid hN
  have hid0 : i0 < D.length := by omega
  obtain ⟨bD, oD, rfl, -, hcD0⟩ := ID.at_ i0 hid0
  rw [show D[i0] = (N : Int) by rw [← hN, getD_get hid0]] at hcD0
  obtain ⟨T, hT⟩ : ∃ T, T = tD x t src := ⟨_, rfl⟩
  have HT := Lib.hid hT
  rw [← hT]
  obtain ⟨nD, hnD⟩ : ∃ n, n = D.length := ⟨_, rfl⟩
  rw [← hnD] at hbD ⊢
  have hid1 : (i0 : Int) < nD := by omega
  have HnD := Lib.hid hnD
  have hnD3 : nD ≤ 3000 := by omega
  clear he hN hb hDe hT hlD hnD hvd
  have X0 : Blk (((w.alloc (.cells #[.int .i64 x.points, .string x.names, v2] 33)).alloc (.cells #[.slice A1 n1 C1, .slice A2 n2 C2, .slice A3 n3 C3, .bool wh] 85)).alloc (.cells #[] 2)) w.heap.size [.int .i64 x.points, .string x.names, v2] := ((Blk.new w [.int .i64 x.points, .string x.names, v2] 33).keep ((Only.refl _ _).alloc _)).keep ((Only.refl _ _).alloc _)
  have Y0 : Blk (((w.alloc (.cells #[.int .i64 x.points, .string x.names, v2] 33)).alloc (.cells #[.slice A1 n1 C1, .slice A2 n2 C2, .slice A3 n3 C3, .bool wh] 85)).alloc (.cells #[] 2)) (w.heap.size + 1) [.slice A1 n1 C1, .slice A2 n2 C2, .slice A3 n3 C3, .bool wh] := (Blk.new_at (w := w.alloc (.cells #[.int .i64 x.points, .string x.names, v2] 33)) (cs := [.slice A1 n1 C1, .slice A2 n2 C2, .slice A3 n3 C3, .bool wh]) (by simp)).keep ((Only.refl _ _).alloc _)
  obtain ⟨iI, hi, hz0, hz1, hz2⟩ := info_parts Tryz.info2
  obtain ⟨s0, hs0⟩ : ∃ s0, s0 = t.patterns.getD i0 [] := ⟨_, rfl⟩
  rw [← hs0] at hu
  have Hs0 := Lib.hid hs0
  rw [← hs0]
  clear hs0
  go_enter Tryz.func72, Tryz.ntmps72
  go_upto_region 4 with (first
    | (go_at_call 127; (with_reducible refine (lettersOf_any [.int .i64 x.points, .string x.names, v2] x _ _ (Rp.keep h0 (by with_reducible repeat (first | exact Only.refl _ _ | assumption | refine Only.drewN ?_ _ | refine Only.drew ?_ | refine Only.alloc ?_ _ | refine Only.setCell ?_ (by intro hh; exfalso; simp at hh; try omega) _ | refine Only.trans ?_ (by assumption)))) (by omega)).mono ?_); rintro e w1 ⟨u1, f1, rfl, r1, F1, t1⟩; obtain ⟨a1, c1, rfl, I1⟩ := r1.ints; have Y1 := Y0.keep t1; have y0 := Y1.cell 0 rfl; have y1 := Y1.cell 1 rfl; have y2 := Y1.cell 2 rfl; have y3 := Y1.cell 3 rfl)
    | (go_at_call 126; (with_reducible refine (sIdx_at x t _ u s0 fu i0 _ (SrF.keep hS (by with_reducible repeat (first | exact Only.refl _ _ | assumption | refine Only.drewN ?_ _ | refine Only.drew ?_ | refine Only.alloc ?_ _ | refine Only.setCell ?_ (by intro hh; exfalso; simp at hh; try omega) _ | refine Only.trans ?_ (by assumption)))) He.out (Rp.keep hu (by with_reducible repeat (first | exact Only.refl _ _ | assumption | refine Only.drewN ?_ _ | refine Only.drew ?_ | refine Only.alloc ?_ _ | refine Only.setCell ?_ (by intro hh; exfalso; simp at hh; try omega) _ | refine Only.trans ?_ (by assumption)))) hi0 Hs0.out.symm).mono ?_); rintro e w2 ⟨rfl, t2⟩; have hcD2 := (show Only [] w w2 from (by with_reducible repeat (first | exact Only.refl _ _ | assumption | refine Only.drewN ?_ _ | refine Only.drew ?_ | refine Only.alloc ?_ _ | refine Only.setCell ?_ (by intro hh; exfalso; simp at hh; try omega) _ | refine Only.trans ?_ (by assumption)))).cell (by simp) hcD0)
    | fail "no arm")
  have K2 : Only [] w w2 := (by with_reducible repeat (first | exact Only.refl _ _ | assumption | refine Only.drewN ?_ _ | refine Only.drew ?_ | refine Only.alloc ?_ _ | refine Only.setCell ?_ (by intro hh; exfalso; simp at hh; try omega) _ | refine Only.trans ?_ (by assumption)))
  have X2 := (X0.keep t1).keep t2
  have Y2 := Y1.keep t2
  have I2 := I1.keep t2
  have hz1s := t1.size
  have hz2s := t2.size
  simp at hz1s
  obtain ⟨ls, hls⟩ : ∃ ls, ls = ltrs x.moves.length := ⟨_, rfl⟩
  rw [← hls] at I2 ⊢
  have Hls := Lib.hid hls
  have hf1 := F1.ge
  have hf1l := I2.lt
  have A0 : AccI w.heap.size 2 w2 (.slice (some ⟨w.heap.size + 2, 0, none⟩) 0 0) [] := ((AccI.made ((w.alloc (.cells #[.int .i64 x.points, .string x.names, v2] 33)).alloc (.cells #[.slice A1 n1 C1, .slice A2 n2 C2, .slice A3 n3 C3, .bool wh] 85)) w.heap.size 2 (by simp) (by omega)).keep t1).keep t2
  have D0 : DWn x t w w2 2 (f1 ++ [w.heap.size, w.heap.size + 1]) w2 (.slice (some ⟨w.heap.size + 2, 0, none⟩) 0 0) u [] i0 fu := by
    refine ⟨A0, by rw [← Hs0.out]; exact Rp.keep hu K2, fun b hb he => ?_, K2, fun _ _ => rfl, fun b hb he => ?_, fun b hb => ?_⟩
    · have := Rp.lt hu b hb; simp [Value.ownBlock] at he; omega
    · simp [Value.ownBlock] at he
      simp only [List.mem_append, List.mem_cons, List.not_mem_nil, or_false] at hb
      rcases hb with hb | hb | hb
      · have := hf1 b hb; simp at this; omega
      · omega
      · omega
    · simp only [List.mem_append, List.mem_cons, List.not_mem_nil, or_false] at hb
      rcases hb with hb | hb | hb
      · exact hf1l b hb
      · omega
      · omega
  clear X0 Y0 Y1 y0 y1 y2 y3 r1 F1 I1 A0 hls t1 t2 hz1s hf1 hf1l hcD0 hcD2
  go_loopw [3, 9, 11] (fun s2 o d wr => ∃ (n i : Nat) (f2 : List Nat) (dn : List Int), d = .int .i64 n ∧ n ≤ 3000 ∧ dn.length + n = N ∧ i < t.patterns.length ∧ D.getD i 0 = n ∧ dn ++ oW x T n (t.patterns.getD i []) = oW x T N s0 ∧ DWn x t w w2 2 (f1 ++ [w.heap.size, w.heap.size + 1]) wr o s2 dn i f2)
    (fun _ _ d _ => (intOf d).toNat)
  case atStart => exact ⟨N, i0, fu, [], rfl, hN3, by simp, hi0, HN.out, by rw [Hs0.out]; rfl, D0⟩
  case round =>
    obtain ⟨W3, hnew⟩ : ∃ W, W = wr := ⟨_, rfl⟩
    subst hnew
    obtain ⟨n, i, f2, dn, rfl, hn3, hlen, hil, hdi, hcat, hD⟩ := hrel
    have Hcat := Lib.hid hcat
    have Hdi := Lib.hid hdi
    have Hlen := Lib.hid hlen
    clear hcat hdi hlen
    by_cases hn : 0 < n
    · obtain ⟨m, hm⟩ : ∃ m, n = m + 1 := ⟨n - 1, by omega⟩
      have hm1 : m + 1 ≤ n := by omega
      have hm2 : n ≤ m + 1 := by omega
      have Hm := Lib.hid hm
      have hdm : (mD x t src).getD i 0 = (m : Int) + 1 := by rw [← HDe.out, Hdi.out, hm]; push_cast; rfl
      obtain ⟨k, j, hDn⟩ := mDown (n := m) Hb.out h0s hil hdm
      clear hm
      have hk0 : k < (ltrs x.moves.length).length := hDn.hk
      have hkl : k < ls.length := by rw [Hls.out]; exact hk0
      have e9 : oW x T (m + 1) (t.patterns.getD i []) = (ltrs x.moves.length)[k]'hk0 :: oW x T m (t.patterns.getD j []) := by rw [HT.out]; exact hDn.oW_
      have e8 : t.patterns.getD j [] = nxt x (t.patterns.getD i []) ((ltrs x.moves.length)[k]'hk0) := hDn.nx
      have e7 : D.getD j 0 = m := by rw [HDe.out]; exact hDn.ds
      have hjp : j < t.patterns.length := hDn.hj
      have e6 : ∀ j' (hj' : j' < k) (i' : Nat), i' < t.patterns.length → t.patterns.getD i' [] = nxt x (t.patterns.getD i []) ((ltrs x.moves.length)[j']'(by omega)) → D.getD i' 0 ≠ m := fun j' hj' i' hi' hx => by rw [HDe.out]; exact (hDn.no j' hj' i' hi' hx).1
      have E9 := Lib.hid e9
      have E8 := Lib.hid e8
      have E7 := Lib.hid e7
      have E6 := Lib.hid e6
      clear hDn e9 e8 e7 e6 hdm
      go_wp2
      go_loopw [3, 9, 12] (fun s2 o c wr => ∃ j' : Nat, j' ≤ k ∧ c = .int .i64 j' ∧ s2 = u3 ∧ o = u9 ∧ Only [] W3 wr)
        (fun _ _ c _ => ls.length - (intOf c).toNat)
      case atStart => exact ⟨0, Nat.zero_le _, rfl, rfl, rfl, Only.refl _ _⟩
      case round =>
        obtain ⟨j', hj', rfl, rfl, rfl, hK⟩ := hrel
        obtain ⟨W4, hnew⟩ : ∃ W, W = wr := ⟨_, rfl⟩
        subst hnew
        have hD4 := hD.keep hK
        have hjl : j' < ls.length := by omega
        have I4 := hD4.ints I2 (by intro b hb; simp [hb])
        have hlb := I4.bound
        obtain ⟨b3, off3, rfl, -, hc3⟩ := I4.at_ j' hjl
        have X4 := hD4.blk X2 (by simp)
        have Y4 := hD4.blk Y2 (by simp)
        have x0 := X4.cell 0 rfl
        have x1 := X4.cell 1 rfl
        have x2 := X4.cell 2 rfl
        have hrd := hD4.rd
        have K4 := hD4.on
        have hla : ls[j'] ∈ ltrs x.moves.length := by rw [← Hls.out]; exact List.getElem_mem hjl
        obtain ⟨i', hi', hnx, -, -⟩ := Hb.out.step hil hla
        have hpat := expl_pat He.out hil
        have Hrng := Lib.hid (patB_iff.1 hpat).2.1
        have hql : (t.patterns.getD i []).length ≤ 1000 := by rw [expl_len1 He.out hil]; omega
        have hI : I64 ls[j'] := by have := mem_ltrs.1 hla; unfold I64; omega
        have HI := Lib.hid hI
        have Hla := Lib.hid hla
        obtain ⟨cur, hcur⟩ : ∃ cur, cur = t.patterns.getD i [] := ⟨_, rfl⟩
        have Hcur := Lib.hid hcur
        rw [← hcur] at hrd hql hnx
        rw [← hcur] at Hrng
        clear hpat hla hI hcur
        have Hc := Lib.hid (fun (W : World) (hh : Only [] W4 W) => applyLetter_any [.int .i64 x.points, .string x.names, v2] x _ u3 cur _ ls[j'] W (Rp.keep h0 (K4.trans hh)) (Rp.keep hrd hh) Hb.out.v Hla.out Hrng.out hql)
        go_wp2
        go_region_held3 (fun w' => Only [] W4 w' ∧ w'.cell? ⟨w.heap.size, 0, none⟩ = some (.int .i64 x.points) ∧ w'.cell? ⟨w.heap.size, 1, none⟩ = some (.string x.names) ∧ w'.cell? ⟨w.heap.size, 2, none⟩ = some (v2) ∧ w'.cell? ⟨b3, off3 + j', none⟩ = some (.int .i64 ls[j'])) (((refine and_of ?_ (fun h__ => ⟨h__.cell (by simp) x0, h__.cell (by simp) x1, h__.cell (by simp) x2, h__.cell (by simp) hc3⟩)); first | exact (Only.refl _ _).drew | exact ((Only.refl _ _).drewN _).drew | exact Only.trans (And.left (by assumption)) (by assumption) | exact Only.alloc (And.left (by assumption)) _ | assumption)) (first | (go_at_call 128; (with_reducible refine (Hc.out _ (And.left (by assumption))).mono ?_); rintro e w5 ⟨u5, f5, rfl, r5, F5, t5⟩; have F5' := F5.mono (((Only.refl [] W4).trans (And.left (by assumption))).size)) | fail "no arm")
        have k5 : Only [] W4 w5 := (Only.refl [] W4).trans (And.left (by assumption))
        obtain ⟨s', hs'⟩ : ∃ s', s' = nxt x cur ls[j'] := ⟨_, rfl⟩
        rw [← hs'] at r5 hnx
        have Y5 := Y4.keep k5
        have y0 := Y5.cell 0 rfl
        have y1 := Y5.cell 1 rfl
        have y2 := Y5.cell 2 rfl
        have y3 := Y5.cell 3 rfl
        have I5 := I4.keep k5
        obtain ⟨b3', off3', e3, -, hc5⟩ := I5.at_ j' hjl
        injection e3 with e3; injection e3 with e3 e4; subst e3; subst e4
        have hD5 := hD4.keep k5
        have hKw5 : Only [] w w5 := K4.trans k5
        have hdi' : i' < D.length := by rw [HlD.out]; exact hi'
        obtain ⟨bD', oD', eD, -, hcD⟩ := (ID.keep hKw5).at_ i' hdi'
        injection eD with eD; injection eD with eD1 eD2; subst eD1; subst eD2
        obtain ⟨d', hd9⟩ : ∃ d', d' = D[i'] := ⟨_, rfl⟩
        have hdg : D.getD i' 0 = d' := by rw [getD_get hdi', hd9]
        rw [← hd9] at hcD
        have hin : (i' : Int) < nD := by have := HnD.out; omega
        have Hsi := Lib.hid (fun (W : World) (hh : Only [] w5 W) => sIdx_at x t (.agg #[.slice A1 n1 C1, .slice A2 n2 C2, .slice A3 n3 C3, .bool wh]) u5 s' f5 i' W (SrF.keep hS (hKw5.trans hh)) He.out (Rp.keep r5 hh) hi' hnx)
        have Hs' := Lib.hid hs'
        have Hnx := Lib.hid hnx
        have Hdg := Lib.hid hdg
        clear x0 x1 x2 hc3 X4 Y4 I4 Hc hrd hs' hnx hd9 hdg
        by_cases hjk : j' = k
        · subst hjk
          have hjj : t.patterns.getD j [] = s' := by rw [E8.out, Hs'.out, Hcur.out]; simp [Hls.out]
          have hij : i' = j := by
            have a1 := Hb.out.idx hi'
            have a2 := Hb.out.idx hjp
            rw [Hnx.out] at a1
            rw [hjj] at a2
            omega
          have Hjj := Lib.hid hjj
          have hdm : d' = m := by rw [← Hdg.out, hij, E7.out]
          subst hdm
          clear hjj hij
          have hdl : dn.length + 1 ≤ 1073741824 := by have := Hlen.out; omega
          have hcmp : ((m : Int) == (n : Int) - 1) = true := by simp; omega
          go_wp2_with (first
            | (go_at_call 126; (with_reducible refine (Hsi.out _ (by with_reducible repeat (first | exact Only.refl _ _ | assumption | refine Only.drewN ?_ _ | refine Only.drew ?_ | refine Only.alloc ?_ _ | refine Only.setCell ?_ (by intro hh; exfalso; simp at hh; try omega) _ | refine Only.trans ?_ (by assumption)))).mono ?_); rintro e w6 ⟨rfl, t6⟩; have hc6 := t6.cell (by simp) hc5; have hcD6 := t6.cell (by simp) hcD; have hD6 := hD5.keep t6; have hB6 := hD6.on.size)
            | (at_builtin; refine wpList_pushI rfl _ _ 25 rfl w.heap.size 2 iI _ Tryz.underlying25 hi hz0 hz1 hz2 rfl w6 _ dn rfl hD6.acc ((Only.refl _ _).alloc _) hB6 w6.heap.size 1 ls[j'] rfl (lit1 w6 _ _ rfl) HI.out hdl ?_; intro v9 w9 hA9 hO9 hP9 hN9)
            | fail "no arm")
          have hf5 : ∀ b ∈ f5, u9.ownBlock ≠ some b := fun b hb he => by
            obtain ⟨fs7, hA7⟩ := hD4.acc
            have := (hA7.ownlt b he).2
            have := F5'.ge b hb
            omega
          have hD9 := DWn.step hD6 ((Only.refl _ _).alloc _) hA9 hO9 hN9 hP9 (j := j) (Rp.keep (Rp.keep (show Rd w5 u5 (t.patterns.getD j []) f5 by rw [Hjj.out]; exact r5) t6) ((Only.refl _ _).alloc _)) hf5
          exact ⟨⟨m, j, f5, dn ++ [ls[j']], by congr 1; omega, by omega, by have := Hlen.out; simp; omega, hjp, E7.out, by rw [← Hcat.out, Hm.out, E9.out]; simp [Hls.out], hD9⟩, by simp [intOf]; omega⟩
        · have hne : d' ≠ m := by rw [← Hdg.out]; exact E6.out j' (by omega) i' hi' (by rw [Hnx.out, Hs'.out, Hcur.out]; simp [Hls.out])
          have hcmp : (d' == (n : Int) - 1) = false := by simp; omega
          clear hne
          go_wp2_with (first
            | (go_at_call 126; (with_reducible refine (Hsi.out _ (by with_reducible repeat (first | exact Only.refl _ _ | assumption | refine Only.drewN ?_ _ | refine Only.drew ?_ | refine Only.alloc ?_ _ | refine Only.setCell ?_ (by intro hh; exfalso; simp at hh; try omega) _ | refine Only.trans ?_ (by assumption)))).mono ?_); rintro e w6 ⟨rfl, t6⟩; have hcD6 := t6.cell (by simp) hcD)
            | fail "no arm")
          go_roundw
          case rel => exact ⟨j' + 1, by omega, by go_num, rfl, rfl, hK.trans (k5.trans t6)⟩
          case measure => simp [intOf]; omega
    · obtain rfl : n = 0 := by omega
      have hfin : dn = oW x T N s0 := by have := Hcat.out; rwa [show oW x T 0 (t.patterns.getD i []) = [] from rfl, List.append_nil] at this
      have Hfin := Lib.hid hfin
      clear hfin
      go_wp2
      go_ret
      exact ⟨_, _, rfl, by rw [← Hfin.out]; exact hD.acc.rd, hD.acc.fresh, hD.on⟩
end Go.Proofs.YtclhblofchfglaaGreat

namespace Go.Proofs.YtclhblofchfglaaGreat
open Go.RowKit
set_option maxRecDepth 10000

/-- two slices under way, apart -/
def Two (B : Nat) (e : TypeId) (w : World) (o o' : Value) (l l' : List Int) : Prop := AccI B e w o l ∧ AccI B e w o' l' ∧ ∀ b, o.ownBlock = some b → o'.ownBlock ≠ some b
theorem Two.keep {B : Nat} {e : TypeId} {w w' : World} {o o' : Value} {l l' : List Int} (h : Two B e w o o' l l') (ho : Only [] w w') : Two B e w' o o' l l' := ⟨h.1.keep ho, h.2.1.keep ho, h.2.2⟩
theorem Two.fst {B : Nat} {e : TypeId} {wa wb : World} {o o' v : Value} {l l' : List Int} {n : Int} (h : Two B e wa o o' l l') (hA : AccI B e wb v (l ++ [n])) (oA : Only o.ownBlock.toList wa wb) (nA : v.ownBlock = o.ownBlock ∨ v.ownBlock = some wa.heap.size) : Two B e wb v o' (l ++ [n]) l' := by
  refine ⟨hA, h.2.1.only oA (fun g hg hm => h.2.2 g (by simpa using hm) hg), fun b hb he => ?_⟩
  rcases nA with e | e
  · exact h.2.2 b (by rw [← e]; exact hb) he
  · rw [e] at hb; injection hb with hb
    have := (h.2.1.ownlt b he).2; omega
theorem Two.snd {B : Nat} {e : TypeId} {wa wb : World} {o o' v : Value} {l l' : List Int} {n : Int} (h : Two B e wa o o' l l') (hA : AccI B e wb v (l' ++ [n])) (oA : Only o'.ownBlock.toList wa wb) (nA : v.ownBlock = o'.ownBlock ∨ v.ownBlock = some wa.heap.size) : Two B e wb o v l (l' ++ [n]) := by
  refine ⟨h.1.only oA (fun g hg hm => h.2.2 g hg (by simpa using hm)), hA, fun b hb he => ?_⟩
  rcases nA with e | e
  · exact h.2.2 b hb (by rw [← e]; exact he)
  · rw [e] at he; injection he with he
    have := (h.1.ownlt b hb).2; omega
set_option maxHeartbeats 4000000 in
theorem closer_any (x : Puzzle) (t : Table) (v : Value) (i : Nat) (w : World) (h : Exp w x t v) (he : expl x = some t) (hi : i < t.patterns.length) :
    Calls Tryz.prog 138 #[v, .int .i64 i] w fun e w' => ∃ u1 u2 f1 f2, e = .returned (.tuple #[u1, u2]) ∧ Rd w' u1 (clL x t i (ltrs x.moves.length)) f1 ∧ Rd w' u2 (clS x t i (ltrs x.moves.length)) f2 ∧ (∀ b ∈ f2, w.heap.size ≤ b) ∧ Only [] w w' := by
  obtain ⟨g, M, v2, us, ud, up, uy, un, fm, f1, f2, f3, km, rfl, hB, hp, -, hD, hN, -⟩ := h
  obtain ⟨hb, -⟩ := expl_built he
  obtain ⟨q1, q20, q8, -⟩ := validPz_facts hb.v
  obtain ⟨v2', hvv, -, -, h2⟩ := hp
  have e2 : v2 = v2' := by simpa using hvv
  subst e2
  obtain ⟨A2, C2, _, _, rfl, -, -⟩ := h2.open_
  obtain ⟨aD, cD, rfl, ID⟩ := hD.ints
  obtain ⟨aN, cN, obN, fpN, rfl, -, SN⟩ := hN.open_
  have hil : i < (t.patterns.map (rowT x t)).length := by simpa using hi
  obtain ⟨bN, oN, ur, rfl, -, hcN, hur⟩ := SN.atRow i hil
  rw [List.getElem_map] at hur
  have hri : rowT x t t.patterns[i] = rowT x t (t.patterns.getD i []) := by rw [getD_get hi]
  rw [hri] at hur
  obtain ⟨row, hrow⟩ : ∃ row, row = rowT x t (t.patterns.getD i []) := ⟨_, rfl⟩
  rw [← hrow] at hur
  obtain ⟨aR, cR, rfl, IR⟩ := hur.ints
  have hdl : t.distances.length = t.patterns.length := hb.bi.dl
  have hid : i < t.distances.length := by omega
  obtain ⟨bD, oD, rfl, -, hcD⟩ := ID.at_ i hid
  obtain ⟨iI, hiI, hzI0, hzI1, hzI2⟩ := info_parts Tryz.info2
  have x2 := hB.cell 2 rfl
  have y4 := hB.cell 4 rfl
  have y8 := hB.cell 8 rfl
  have hll0 := hb.ll
  have hbN := SN.bound
  have hrl : row.length = (ltrs x.moves.length).length := by rw [hrow]; simp [rowT]
  obtain ⟨np, hnp⟩ : ∃ np, np = (t.patterns.map (rowT x t)).length := ⟨_, rfl⟩
  rw [← hnp] at hil hbN y8
  obtain ⟨di, hdi⟩ : ∃ di, di = t.distances[i] := ⟨_, rfl⟩
  rw [← hdi] at hcD
  have hid2 : i < t.distances.length := hid
  have Hdi := Lib.hid (show t.distances.getD i 0 = di by rw [hdi, getD_get hid])
  have Hb := Lib.hid hb
  have Hrow := Lib.hid hrow
  have Hdl := Lib.hid hdl
  have Hrl := Lib.hid hrl
  clear hnp hdi hdl hrow hrl hri he hb hvv
  go_enter Tryz.func138, Tryz.ntmps138
  go_wp2_with (first
    | (go_at_call 118; (with_reducible refine (letters_any x.moves.length _ (by omega)).mono ?_); rintro e w1 ⟨u1, f8, rfl, r1, F1, t1⟩; obtain ⟨a1, c1, rfl, I1⟩ := r1.ints; have y8' := t1.cell (by simp) y8; have hcN' := t1.cell (by simp) hcN)
    | fail "no arm")
  obtain ⟨ls, hls⟩ : ∃ ls, ls = ltrs x.moves.length := ⟨_, rfl⟩
  rw [← hls] at I1 ⊢
  have Hls := Lib.hid hls
  have hrl2 : row.length = ls.length := by rw [Hrl.out, hls]
  have hll : ls.length ≤ 1000 := by rw [hls, ltrs_len]; omega
  have Hrl2 := Lib.hid hrl2
  have hr1000 : row.length ≤ 1000 := by omega
  clear hls hrl2 r1 F1 Hrl
  go_loopw [6, 7, 26] (fun o o' k wr => ∃ j : Nat, j ≤ row.length ∧ k = .int .i64 j ∧ Two w1.heap.size 2 wr o o' (clL x t i (ls.take j)) (clS x t i (ls.take j)) ∧ Only [] w1 wr)
    (fun _ _ k _ => row.length - (intOf k).toNat)
  case atStart => exact ⟨0, Nat.zero_le _, rfl, ⟨AccI.nil _ _ _, AccI.nil _ _ _, by simp [Value.ownBlock]⟩, Only.refl _ _⟩
  case round =>
    obtain ⟨W2, hnew⟩ : ∃ W, W = wr := ⟨_, rfl⟩
    subst hnew
    obtain ⟨j, hj, rfl, hT, hK⟩ := hrel
    by_cases hlt : j < row.length
    · have hjl : j < ls.length := by have := Hrl2.out; omega
      have hla : ls[j] ∈ ltrs x.moves.length := by rw [← Hls.out]; exact List.getElem_mem hjl
      obtain ⟨tz, hto, -, hidx⟩ := idx_step Hb.out hi hla
      have hrj : row[j] = (tz : Int) := by rw [← hidx]; simp [Hrow.out, rowT, Hls.out]
      have htd : tz < t.distances.length := by have := Hdl.out; omega
      have IRw := IR.keep (t1.trans hK)
      obtain ⟨bR, oR, rfl, -, hcR⟩ := IRw.at_ j hlt
      rw [hrj] at hcR
      have IDw := ID.keep (t1.trans hK)
      obtain ⟨bD', oD', eD, -, hcT⟩ := IDw.at_ tz htd
      injection eD with eD; injection eD with eD1 eD2; subst eD1; subst eD2
      have hcDw := (t1.trans hK).cell (by simp) hcD
      have y4w := (t1.trans hK).cell (by simp) y4
      obtain ⟨b1, o1, rfl, -, hc1⟩ := (I1.keep hK).at_ j hjl
      obtain ⟨dt, hdt⟩ : ∃ dt, dt = t.distances[tz] := ⟨_, rfl⟩
      rw [← hdt] at hcT
      have hclp : clP x t i ls[j] = decide (dt < di) := by
        unfold clP
        rw [hidx, Int.toNat_natCast, Hdi.out, hdt, getD_get htd]
      have HIt := Lib.hid (show I64 (tz : Int) by unfold I64; omega)
      have HIl := Lib.hid (show I64 ls[j] by have := mem_ltrs.1 hla; unfold I64; omega)
      have hsn1 := clL_snoc (x := x) (t := t) i (ls.take j) ls[j]
      have hsn2 := clS_snoc (x := x) (t := t) i (ls.take j) ls[j]
      rw [← take_succ_get ls j hjl] at hsn1 hsn2
      rw [hidx] at hsn2
      rw [hclp] at hsn1 hsn2
      have hB2 : w1.heap.size ≤ W2.heap.size := hK.size
      have hl1 : (clL x t i (ls.take j)).length + 1 ≤ 1073741824 := by
        have := List.length_filter_le (clP x t i) (ls.take j)
        unfold clL; rw [List.length_take] at this; omega
      have hl2 : (clS x t i (ls.take j)).length + 1 ≤ 1073741824 := by
        unfold clS; rw [List.length_map]; exact hl1
      have HT := Lib.hid hT
      clear hla hidx hrj hdt hclp IRw IDw hT
      by_cases hc : dt < di
      · rw [if_pos (decide_eq_true hc)] at hsn1 hsn2
        have Hs1 := Lib.hid hsn1
        have Hs2 := Lib.hid hsn2
        clear hsn1 hsn2
        go_wp2
        go_quiet (fail)
        have hKq : Only [] W2 (W2.drewN nq) := Only.ofDrewN W2 nq []
        have hT5 := HT.out.keep hKq
        have hc5 := hKq.cell (by simp) hc1
        have hK5 := hK.trans hKq
        have hB5 : w1.heap.size ≤ (W2.drewN nq).heap.size := hK5.size
        clear hc1 hcR hcT hcDw y4w HT
        generalize W2.drewN nq = W5 at *
        have HT := Lib.hid hT5
        clear hT5
        go_wp2_with (first
          | (at_builtin; refine wpList_pushI rfl _ _ 25 rfl w1.heap.size 2 iI _ Tryz.underlying25 hiI hzI0 hzI1 hzI2 rfl W5 u6 _ rfl HT.out.1 ((Only.refl _ _).alloc _) hB5 W5.heap.size 1 ls[j] rfl (lit1 W5 _ _ rfl) HIl.out hl1 ?_; intro v6 w6 hA6 hO6 hP6 hN6; have HT6 := Lib.hid ((HT.out.keep ((Only.refl _ _).alloc (.cells #[.int .i64 ls[j]] 2))).fst hA6 hO6 hN6); have hK6 := hP6 w1 (hK5.alloc _) (Nat.le_refl _); have hB6 := hK6.size)
          | (at_builtin; refine wpList_pushI rfl _ _ 25 rfl w1.heap.size 2 iI _ Tryz.underlying25 hiI hzI0 hzI1 hzI2 rfl w6 u7 _ rfl HT6.out.2.1 ((Only.refl _ _).alloc _) hB6 w6.heap.size 1 (tz : Int) rfl (lit1 w6 _ _ rfl) HIt.out hl2 ?_; intro v7 w7 hA7 hO7 hP7 hN7)
          | fail "no arm")
        have hT7 := (HT6.out.keep ((Only.refl _ _).alloc (.cells #[.int .i64 (tz : Int)] 2))).snd hA7 hO7 hN7
        have hK7 := hP7 w1 (hK6.alloc _) (Nat.le_refl _)
        go_roundw
        case rel => exact ⟨j + 1, by omega, by go_num, by rw [Hs1.out, Hs2.out]; exact hT7, hK7⟩
        case measure => simp [intOf]; omega
      · rw [if_neg (by simpa using hc)] at hsn1 hsn2
        have Hs1 := Lib.hid hsn1
        have Hs2 := Lib.hid hsn2
        have hcb : decide (dt < di) = false := decide_eq_false hc
        clear hsn1 hsn2
        go_wp2
        go_quiet (fail)
        go_wp2
        go_roundw
        case rel => exact ⟨j + 1, by omega, by go_num, by rw [Hs1.out, Hs2.out]; exact HT.out.keep (by with_reducible repeat (first | exact Only.refl _ _ | assumption | refine Only.drewN ?_ _ | refine Only.drew ?_ | refine Only.alloc ?_ _ | refine Only.setCell ?_ (by intro hh; exfalso; simp at hh; try omega) _ | refine Only.trans ?_ (by assumption))), (by with_reducible repeat (first | exact Only.refl _ _ | assumption | refine Only.drewN ?_ _ | refine Only.drew ?_ | refine Only.alloc ?_ _ | refine Only.setCell ?_ (by intro hh; exfalso; simp at hh; try omega) _ | refine Only.trans ?_ (by assumption)))⟩
        case measure => simp [intOf]; omega
    · obtain rfl : j = row.length := by omega
      rw [Hrl2.out, List.take_length, Hls.out] at hT
      have HT := Lib.hid hT
      clear hT
      go_wp2
      exact bodyPost_ret (v := .tuple #[u6, u7]) (by simp [results, Tryz.results138, go_sem]) rfl ⟨u6, u7, _, _, rfl, HT.out.1.rd, HT.out.2.1.rd, fun b hb => Nat.le_trans t1.size (HT.out.2.1.fresh.ge b hb), t1.trans hK⟩
/-- the entry of the depths at hand -/
theorem Exp.depth {w : World} {x : Puzzle} {t : Table} {v : Value} (h : Exp w x t v) : ∃ g aD cD fD, v = .pointer (some ⟨g, 0, none⟩) ∧ w.cell? ⟨g, 4, none⟩ = some (.slice aD t.distances.length cD) ∧ IntsA w aD cD t.distances fD := by
  obtain ⟨g, M, v2, us, ud, up, uy, un, fm, f1, f2, f3, k, rfl, hB, -, -, hD, -, -⟩ := h
  obtain ⟨aD, cD, rfl, ID⟩ := hD.ints
  exact ⟨g, aD, cD, _, rfl, hB.cell 4 rfl, ID⟩
set_option maxHeartbeats 2000000 in
theorem optimalWord_far (x : Puzzle) (t : Table) (v : Value) (i : Nat) (w : World) (h : Exp w x t v) (he : expl x = some t) (hi : i < t.patterns.length) (hN : 200 < t.distances.getD i 0) :
    Calls Tryz.prog 87 #[v, .int .i64 i] w fun e w' => e = .returned (.tuple #[.slice none 0 0, .bool false]) ∧ Only [] w w' := by
  obtain ⟨hb, -⟩ := expl_built he
  have hid : i < t.distances.length := by have : t.distances.length = t.patterns.length := hb.bi.dl; omega
  obtain ⟨g, aD, cD, fD, rfl, y4, ID⟩ := h.depth
  obtain ⟨bD, oD, rfl, -, hcD⟩ := ID.at_ i hid
  rw [getD_get hid] at hN
  obtain ⟨d, hd⟩ : ∃ d, d = t.distances[i] := ⟨_, rfl⟩
  rw [← hd] at hcD hN
  clear hd hb he
  go_enter Tryz.func87, Tryz.ntmps87
  go_wp2
  exact bodyPost_ret (v := .tuple #[.slice none 0 0, .bool false]) (by simp [results, Tryz.results87, go_sem]) rfl ⟨rfl, Only.refl _ _⟩
set_option maxHeartbeats 4000000 in
theorem optimalWord_any (x : Puzzle) (t : Table) (v : Value) (i0 N : Nat) (w : World) (h : Exp w x t v) (he : expl x = some t) (hi0 : i0 < t.patterns.length) (hN : t.distances.getD i0 0 = N) (h200 : N ≤ 200) :
    Calls Tryz.prog 87 #[v, .int .i64 i0] w fun e w' => ∃ u f, e = .returned (.tuple #[u, .bool true]) ∧ Rd w' u (oW x t N (t.patterns.getD i0 [])) f ∧ Fresh w.heap.size w' f ∧ Only [] w w' := by
  obtain ⟨hb, -⟩ := expl_built he
  have hdl : t.distances.length = t.patterns.length := hb.bi.dl
  have hX := h
  obtain ⟨g, aD, cD, fD, rfl, y4, ID⟩ := h.depth
  have hid : i0 < t.distances.length := by omega
  obtain ⟨bD, oD, rfl, -, hcD⟩ := ID.at_ i0 hid
  obtain ⟨iI, hiI, hzI0, hzI1, hzI2⟩ := info_parts Tryz.info2
  have hll := hb.ll
  have hds : t.distances[i0] = (N : Int) := by rw [← hN, getD_get hid]
  rw [hds] at hcD
  obtain ⟨s0, hs0⟩ : ∃ s0, s0 = t.patterns.getD i0 [] := ⟨_, rfl⟩
  have Hs0 := Lib.hid hs0
  rw [← hs0]
  have HN := Lib.hid hN
  have Hb := Lib.hid hb
  have He := Lib.hid he
  have Hdl := Lib.hid hdl
  have hlD := ID.bound
  clear hN hb he hs0 hdl hds
  go_enter Tryz.func87, Tryz.ntmps87
  go_wp2
  go_loopw [1, 6] (fun c o wr => ∃ (n i : Nat) (dn : List Int), c = .int .i64 i ∧ n ≤ 200 ∧ dn.length + n = N ∧ i < t.patterns.length ∧ t.distances.getD i 0 = n ∧ dn ++ oW x t n (t.patterns.getD i []) = oW x t N s0 ∧ AccI w.heap.size 2 wr o dn ∧ Only [] w wr)
    (fun c _ _ => (t.distances.getD (intOf c).toNat 0).toNat)
  case atStart => exact ⟨N, i0, [], rfl, h200, by simp, hi0, HN.out, by rw [Hs0.out]; rfl, AccI.nil _ _ _, Only.refl _ _⟩
  case round =>
    clear hcD hid
    obtain ⟨W3, hnew⟩ : ∃ W, W = wr := ⟨_, rfl⟩
    subst hnew
    obtain ⟨n, i, dn, rfl, hn, hlen, hil, hdi, hcat, hA, hK⟩ := hrel
    have hid : i < t.distances.length := by have := Hdl.out; omega
    have y4w := hK.cell (by simp) y4
    obtain ⟨bD', oD', eD, -, hcD⟩ := (ID.keep hK).at_ i hid
    injection eD with eD; injection eD with eD1 eD2; subst eD1; subst eD2
    rw [show t.distances[i] = (n : Int) by rw [← hdi, getD_get hid]] at hcD
    have Hcat := Lib.hid hcat
    have Hdi := Lib.hid hdi
    have Hlen := Lib.hid hlen
    have HA := Lib.hid hA
    clear hcat hdi hlen hA
    by_cases h0 : 0 < n
    · obtain ⟨m, hm⟩ : ∃ m, n = m + 1 := ⟨n - 1, by omega⟩
      have hdm : t.distances.getD i 0 = (m : Int) + 1 := by rw [Hdi.out, hm]; push_cast; rfl
      obtain ⟨k, j, hDn⟩ := Hb.out.down hil hdm
      obtain ⟨r1, r2, hL1, hL2⟩ := hDn.head Hb.out hil hdm
      obtain ⟨l, hl⟩ : ∃ l, l = (ltrs x.moves.length)[k]'hDn.hk := ⟨_, rfl⟩
      have hla : l ∈ ltrs x.moves.length := by rw [hl]; exact List.getElem_mem _
      have hv := validPz_facts Hb.out.v
      have HIl := Lib.hid (show I64 l by have := mem_ltrs.1 hla; unfold I64; omega)
      rw [← hl] at hL1
      have HL1 := Lib.hid hL1
      have HL2 := Lib.hid hL2
      have HDn := Lib.hid hDn
      have Hl := Lib.hid hl
      have Hm := Lib.hid hm
      have hm1 : m + 1 ≤ n := by omega
      have hm2 : n ≤ m + 1 := by omega
      have hbw : w.heap.size ≤ W3.heap.size := hK.size
      have hdl1 : dn.length + 1 ≤ 1073741824 := by have := Hlen.out; omega
      clear hL1 hL2 hl hm hdm hla hv
      go_wp2_with (first
        | (go_at_call 138; (with_reducible refine (closer_any x t _ i _ (hX.keep hK) He.out hil).mono ?_); rintro e w4 ⟨u1, u2, f1, f2, rfl, r1', r2', hf2, t4⟩; rw [HL1.out] at r1'; rw [HL2.out] at r2'; obtain ⟨a1, c1, rfl, I1⟩ := r1'.ints; obtain ⟨a2, c2, rfl, I2⟩ := r2'.ints; obtain ⟨b1, o1, rfl, -, hc1⟩ := I1.at_ 0 (by simp); obtain ⟨b2, o2, rfl, hfb2, hc2⟩ := I2.at_ 0 (by simp); have hb2w := hf2 b2 (by rw [hfb2]; simp); clear hfb2 hf2; simp only [List.getElem_cons_zero, Nat.add_zero] at hc1 hc2; have hbw4 : w.heap.size ≤ w4.heap.size := (Nat.le_trans hbw t4.size); have hA4 := Lib.hid (HA.out.keep t4))
        | (at_builtin; refine wpList_pushI rfl _ _ 25 rfl w.heap.size 2 iI _ Tryz.underlying25 hiI hzI0 hzI1 hzI2 rfl w4 u6 _ rfl hA4.out ((Only.refl _ _).alloc _) hbw4 w4.heap.size 1 l rfl (lit1 w4 _ _ rfl) HIl.out hdl1 ?_; intro v9 w9 hA9 hO9 hP9 hN9; have hc29 := hO9.cell (p := ⟨b2, o2, none⟩) (fun hm => by have h7 := (HA.out.ownlt b2 (by simpa using hm)).2; omega) (((Only.refl [] w4).alloc _).cell (by simp) hc2))
        | fail "no arm")
      have hA9' := hA9
      have hK9 := hP9 w ((hK.trans t4).alloc _) (Nat.le_refl _)
      exact ⟨⟨m, j, dn ++ [l], rfl, by omega, by have := Hlen.out; simp; omega, HDn.out.hj, HDn.out.ds, by rw [← Hcat.out, Hm.out, HDn.out.oW_, Hl.out]; simp, hA9', hK9⟩, by show (t.distances.getD ((j : Nat) : Int).toNat 0).toNat < (t.distances.getD ((i : Nat) : Int).toNat 0).toNat; rw [Int.toNat_natCast, Int.toNat_natCast, HDn.out.ds, Hdi.out]; omega⟩
    · obtain rfl : n = 0 := by omega
      have hfin : dn = oW x t N s0 := by have := Hcat.out; rwa [show oW x t 0 (t.patterns.getD i []) = [] from rfl, List.append_nil] at this
      have Hfin := Lib.hid hfin
      clear hfin
      go_wp2
      exact bodyPost_ret (v := .tuple #[u6, .bool true]) (by simp [results, Tryz.results87, go_sem]) rfl ⟨u6, rfl, _, by rw [← Hfin.out]; exact HA.out.rd, HA.out.fresh, hK⟩
end Go.Proofs.YtclhblofchfglaaGreat

namespace Go.Proofs.YtclhblofchfglaaGreat
open Go.RowKit
set_option maxRecDepth 10000

set_option maxHeartbeats 1000000 in
theorem descend_closure (gb ib : Nat) (vd : Value) (D : List Int) (fd : List Nat) (i k : Nat) (w : World) (h1 : w.cell? ⟨gb, 0, none⟩ = some vd) (h2 : w.cell? ⟨ib, 0, none⟩ = some (.int .i64 i)) (hD : Rd w vd D fd) (hi : i < D.length) (hk : k < D.length) :
    Calls Tryz.prog 120 #[.int .i64 k, .pointer (some ⟨gb, 0, none⟩), .pointer (some ⟨ib, 0, none⟩)] w fun e w' => e = .returned (.bool (decide (D.getD k 0 < D.getD i 0))) ∧ Only [] w w' := by
  obtain ⟨a, c, rfl, I⟩ := hD.ints
  have hb := I.bound
  obtain ⟨b, off, rfl, -, c1⟩ := I.at_ i hi
  obtain ⟨b', off', hA, -, c2⟩ := I.at_ k hk
  injection hA with hA; injection hA with hA1 hA2; subst hA1; subst hA2
  have e1 : D.getD k 0 = D[k] := getD_get hk
  have e2 : D.getD i 0 = D[i] := getD_get hi
  obtain ⟨dk, hdk⟩ : ∃ d, d = D[k] := ⟨_, rfl⟩
  obtain ⟨di, hdi⟩ : ∃ d, d = D[i] := ⟨_, rfl⟩
  rw [← hdk] at c2 e1
  rw [← hdi] at c1 e2
  rw [e1, e2]
  clear e1 e2 hdk hdi
  go_enter Tryz.func120, Tryz.ntmps120
  go_wp2
  go_quiet (fail)
  go_wp2
  go_ret
  exact ⟨rfl, Only.ofDrewN _ _ _⟩
set_option maxHeartbeats 1000000 in
theorem descend_far (v vd : Value) (D : List Int) (fd : List Nat) (i : Nat) (w : World) (hv : Rd w vd D fd) (hi : i < D.length) (hN : 200 < D.getD i 0) :
    Calls Tryz.prog 66 #[v, vd, .int .i64 i] w fun e w' => e = .returned (.tuple #[.slice none 0 0, .int .i64 0, .bool false]) ∧ Only [] w w' := by
  obtain ⟨a, c, rfl, I⟩ := hv.ints
  have hb := I.bound
  obtain ⟨b, off, rfl, -, c1⟩ := I.at_ i hi
  rw [getD_get hi] at hN
  obtain ⟨di, hdi⟩ : ∃ d, d = D[i] := ⟨_, rfl⟩
  rw [← hdi] at c1 hN
  have hK : Only [] w ((w.alloc (.cells #[.slice (some ⟨b, off, none⟩) D.length c] 25)).alloc (.cells #[.int .i64 i] 2)) := ((Only.refl _ _).alloc _).alloc _
  have d1 := hK.cell (by simp) c1
  have d2 := lit1 (w.alloc (.cells #[.slice (some ⟨b, off, none⟩) D.length c] 25)) (.int .i64 i) 2 (g := w.heap.size + 1) (by simp)
  have d3 := ((Only.refl [] _).alloc (.cells #[.int .i64 i] 2)).cell (by simp) (lit1 w (.slice (some ⟨b, off, none⟩) D.length c) 25 rfl)
  clear hdi c1
  go_enter Tryz.func66, Tryz.ntmps66
  go_wp2
  exact bodyPost_ret (v := .tuple #[.slice none 0 0, .int .i64 0, .bool false]) (by simp [results, Tryz.results66, go_sem]) rfl ⟨rfl, hK⟩
theorem down_idx {x : Puzzle} {t : Table} {src : List Int → Bool} (hb : Built x t) {i n k j : Nat} (hi : i < t.patterns.length) (hd : (mD x t src).getD i 0 = (n : Int) + 1) (h : Down x (tD x t src) i n k j) :
    idxF (fun y : Int => decide ((mD x t src).getD y.toNat 0 < (mD x t src).getD i 0)) (rowT x t (t.patterns.getD i [])) = k ∧ k < (rowT x t (t.patterns.getD i [])).length ∧ (rowT x t (t.patterns.getD i [])).getD k 0 = j := by
  have hk := h.hk
  have hrl : (rowT x t (t.patterns.getD i [])).length = (ltrs x.moves.length).length := by simp [rowT]
  have hget : ∀ m (hm : m < (ltrs x.moves.length).length), ∃ i' : Nat, i' < t.patterns.length ∧ t.patterns.getD i' [] = nxt x (t.patterns.getD i []) ((ltrs x.moves.length)[m]) ∧ (rowT x t (t.patterns.getD i []))[m]'(by omega) = i' := fun m hm => by
    obtain ⟨i', a, b, c⟩ := idx_step hb hi (List.getElem_mem hm)
    exact ⟨i', a, b, by simpa [rowT] using c⟩
  obtain ⟨j', j1, j2, j3⟩ := hget k hk
  have hjj : j' = j := by
    have e1 := hb.idx j1
    have e2 := hb.idx h.hj
    have e3 : t.patterns.getD j [] = nxt x (t.patterns.getD i []) ((ltrs x.moves.length)[k]) := h.nx
    rw [j2, ← e3] at e1
    have e4 : idxL t.patterns ((tD x t src).patterns.getD j []) = j := e2
    have e5 : (tD x t src).patterns = t.patterns := rfl
    rw [e5] at e4
    omega
  subst hjj
  refine ⟨idxF_some (by omega) (fun y hy => ?_) ?_, by omega, by rw [getD_get (by omega), j3]⟩
  · rw [List.mem_take_iff_getElem] at hy
    obtain ⟨m, hm, rfl⟩ := hy
    obtain ⟨i', a, b, c⟩ := hget m (by omega)
    rw [c, Int.toNat_natCast, hd]
    exact decide_eq_false (h.no m (by omega) i' a b).2
  · rw [j3, Int.toNat_natCast, hd]
    have : (mD x t src).getD j' 0 = n := h.ds
    exact decide_eq_true (by omega)
set_option maxHeartbeats 4000000 in
theorem descend_yes (x : Puzzle) (t : Table) (v vd : Value) (src : List Int → Bool) (fd : List Nat) (i0 N : Nat) (w : World) (h : Exp w x t v) (he : expl x = some t) (h0 : src t.tracked = true) (hv : Rd w vd (mD x t src) fd)
    (hi0 : i0 < t.patterns.length) (hN : (mD x t src).getD i0 0 = N) (h200 : N ≤ 200) :
    Calls Tryz.prog 66 #[v, vd, .int .i64 i0] w fun e w' => ∃ (u : Value) (j : Nat), e = .returned (.tuple #[u, .int .i64 j, .bool true]) ∧ AccI w.heap.size 2 w' u (oW x (tD x t src) N (t.patterns.getD i0 [])) ∧ j < t.patterns.length ∧ t.patterns.getD j [] = wEnd x (t.patterns.getD i0 []) (oW x (tD x t src) N (t.patterns.getD i0 [])) ∧ (mD x t src).getD j 0 = 0 ∧ Only [] w w' := by
  obtain ⟨hb, -⟩ := expl_built he
  obtain ⟨q1, q20, q8, -⟩ := validPz_facts hb.v
  obtain ⟨g, M, v2, us, ud, up, uy, un, fm, f1, f2, f3, km, rfl, hB, hp, -, -, hNx, -⟩ := h
  obtain ⟨v2', hvv, -, -, h2⟩ := hp
  have e2 : v2 = v2' := by simpa using hvv
  subst e2
  obtain ⟨A2, C2, _, _, rfl, -, -⟩ := h2.open_
  obtain ⟨aN, cN, obN, fpN, rfl, -, SN⟩ := hNx.open_
  obtain ⟨aD, cD, rfl, ID⟩ := hv.ints
  obtain ⟨iI, hiI, hzI0, hzI1, hzI2⟩ := info_parts Tryz.info2
  have hlD : (mD x t src).length = t.patterns.length := (mD_F hb).dl
  have hbD := ID.bound
  obtain ⟨D, hDe⟩ : ∃ D, D = mD x t src := ⟨_, rfl⟩
  have HDe := Lib.hid hDe
  rw [← hDe] at ID hN hlD hbD ⊢
  have x2 := hB.cell 2 rfl
  have y8 := hB.cell 8 rfl
  have hlm : (t.patterns.map (rowT x t)).length = t.patterns.length := List.length_map _
  have hll := hb.ll
  obtain ⟨np, hnp⟩ : ∃ np, np = t.patterns.length := ⟨_, rfl⟩
  rw [hlm, ← hnp] at y8
  have hnp3 : np ≤ 3000 := by omega
  have hi0n : (i0 : Int) < np := by omega
  have hi0m : i0 < np := by omega
  have hlDn : D.length = np := by omega
  have Hnp := Lib.hid hnp
  have HlD := Lib.hid hlDn
  obtain ⟨s0, hs0⟩ : ∃ s0, s0 = t.patterns.getD i0 [] := ⟨_, rfl⟩
  have Hs0 := Lib.hid hs0
  rw [← hs0]
  rw [hlDn] at hbD
  have Hb := Lib.hid hb
  have HN := Lib.hid hN
  obtain ⟨T, hT⟩ : ∃ T, T = tD x t src := ⟨_, rfl⟩
  have HT := Lib.hid hT
  rw [← hT]
  have hK0 : Only [] w ((w.alloc (.cells #[.slice aD D.length cD] 25)).alloc (.cells #[.int .i64 i0] 2)) := ((Only.refl _ _).alloc _).alloc _
  have B1 : Blk ((w.alloc (.cells #[.slice aD D.length cD] 25)).alloc (.cells #[.int .i64 i0] 2)) w.heap.size [.slice aD D.length cD] := (Blk.new w [.slice aD D.length cD] 25).keep ((Only.refl _ _).alloc _)
  have B2 : Blk ((w.alloc (.cells #[.slice aD D.length cD] 25)).alloc (.cells #[.int .i64 i0] 2)) (w.heap.size + 1) [.int .i64 i0] := Blk.new_at (cs := [.int .i64 i0]) (by simp)
  obtain ⟨W0, hW0⟩ : ∃ W0, W0 = (w.alloc (.cells #[.slice aD D.length cD] 25)).alloc (.cells #[.int .i64 i0] 2) := ⟨_, rfl⟩
  have hz0 : W0.heap.size = w.heap.size + 2 := by rw [hW0]; simp
  have hid : i0 < D.length := by omega
  have cI := (ID.keep hK0).at_ i0 hid
  rw [show D[i0] = (N : Int) by rw [← hN, getD_get hid]] at cI
  obtain ⟨bD, oD, rfl, -, cI⟩ := cI
  have x2' := hK0.cell (by simp) x2
  rw [hlDn] at B1 hW0 cI x2' ⊢
  rw [hlDn] at B2 hK0
  rw [← hW0] at B1 B2 hK0 cI x2'
  have b1 := B1.cell 0 rfl
  have b2 := B2.cell 0 rfl
  clear he hDe hlD hlm hnp hlDn hs0 hb hN hT hvv h2 hNx hv x2 hid
  go_enter Tryz.func66, Tryz.ntmps66
  go_upto_region 1 with fail
  rw [← hW0]
  clear hW0
  go_upto_region 5 with (first
    | (go_at_call 118; (with_reducible refine (letters_any x.moves.length _ (by omega)).mono ?_); rintro e w1 ⟨u1, f8, rfl, r1, F1, t1⟩; obtain ⟨a1, c1, rfl, I1⟩ := r1.ints)
    | fail "no arm")
  obtain ⟨ls, hls⟩ : ∃ ls, ls = ltrs x.moves.length := ⟨_, rfl⟩
  rw [← hls] at I1 ⊢
  have Hls := Lib.hid hls
  have hK1 := hK0.trans t1
  have hz1 := hK1.size
  have hz1' := t1.size
  have B1' := B1.keep t1
  have B2' := B2.keep t1
  have hf8 : ∀ b ∈ f8, b ∉ [w.heap.size + 1] := fun b hb hm => by have := F1.ge b hb; simp at hm; omega
  clear hls r1 F1 B1 B2 b1 b2 cI x2' t1 hi0n
  go_loopw [9] (fun o wr => ∃ (n i : Nat) (dn : List Int), n ≤ 200 ∧ dn.length + n = N ∧ i < np ∧ D.getD i 0 = n ∧ dn ++ oW x T n (t.patterns.getD i []) = oW x T N s0 ∧ wEnd x s0 dn = t.patterns.getD i [] ∧ Blk wr (w.heap.size + 1) [.int .i64 i] ∧ AccI w1.heap.size 2 wr o dn ∧ Only [w.heap.size + 1] w1 wr)
    (fun o _ => N - lenV o)
  case atStart => exact ⟨N, i0, [], h200, by simp, hi0m, HN.out, by rw [Hs0.out]; rfl, by rw [Hs0.out]; rfl, B2', AccI.nil _ _ _, Only.refl _ _⟩
  case round =>
    obtain ⟨W3, hnew⟩ : ∃ W, W = wr := ⟨_, rfl⟩
    subst hnew
    obtain ⟨n, i, dn, hn, hlen, hil, hdi, hcat, hend, hB2, hA, hO⟩ := hrel
    have hB1 := B1'.only hO (by simp)
    have hK3 : Only [] w W3 := hK1.then_ hO (by simp)
    have hid : i < D.length := by rw [HlD.out]; exact hil
    have cI := (ID.keep hK3).at_ i hid
    rw [show D[i] = (n : Int) by rw [← hdi, getD_get hid]] at cI
    obtain ⟨bD', oD', eD, -, cI⟩ := cI
    injection eD with eD; injection eD with eD1 eD2; subst eD1; subst eD2
    have b1 := hB1.cell 0 rfl
    have b2 := hB2.cell 0 rfl
    have hinp : (i : Int) < np := by omega
    have Hcat := Lib.hid hcat
    have Hdi := Lib.hid hdi
    have Hlen := Lib.hid hlen
    have Hend := Lib.hid hend
    have HA := Lib.hid hA
    have HB2 := Lib.hid hB2
    clear hcat hdi hlen hend hA hB2
    by_cases hn0 : 0 < n
    · obtain ⟨m, hm⟩ : ∃ m, n = m + 1 := ⟨n - 1, by omega⟩
      have hdm : (mD x t src).getD i 0 = (m : Int) + 1 := by rw [← HDe.out, Hdi.out, hm]; push_cast; rfl
      have hip : i < t.patterns.length := by rw [← Hnp.out]; exact hil
      obtain ⟨k, j, hDn⟩ := mDown (n := m) Hb.out h0 hip hdm
      obtain ⟨k1, k2, k3⟩ := down_idx Hb.out hip hdm hDn
      have hjp : j < np := by rw [Hnp.out]; exact hDn.hj
      have e9 : oW x T (m + 1) (t.patterns.getD i []) = (ltrs x.moves.length)[k]'hDn.hk :: oW x T m (t.patterns.getD j []) := by rw [HT.out]; exact hDn.oW_
      have e8 : t.patterns.getD j [] = nxt x (t.patterns.getD i []) ((ltrs x.moves.length)[k]'hDn.hk) := hDn.nx
      have e7 : (mD x t src).getD j 0 = m := hDn.ds
      obtain ⟨l, hl⟩ : ∃ l, l = (ltrs x.moves.length)[k]'hDn.hk := ⟨_, rfl⟩
      have hla : l ∈ ltrs x.moves.length := by rw [hl]; exact List.getElem_mem _
      have hkl : k < ls.length := by rw [Hls.out]; exact hDn.hk
      have hlk : ls[k] = l := by rw [hl]; simp [Hls.out]
      rw [← hl] at e9 e8
      rw [← HDe.out] at e7 k1
      have HIl := Lib.hid (show I64 l by have := mem_ltrs.1 hla; unfold I64; omega)
      have hrm : ∀ y ∈ rowT x t (t.patterns.getD i []), ∃ z : Nat, y = z ∧ z < D.length := fun y hy => by
        unfold rowT at hy
        obtain ⟨l', hl', rfl⟩ := List.mem_map.1 hy
        obtain ⟨z, z1, -, z2⟩ := idx_step Hb.out hip hl'
        exact ⟨z, z2, by rw [HlD.out, Hnp.out]; exact z1⟩
      obtain ⟨bN, oN, ur, hAN, -, hcN, hur⟩ := SN.atRow i (by rw [List.length_map]; exact hip)
      subst hAN
      rw [List.getElem_map, show t.patterns[i] = t.patterns.getD i [] from (getD_get hip).symm] at hur
      obtain ⟨row, hrow⟩ : ∃ row, row = rowT x t (t.patterns.getD i []) := ⟨_, rfl⟩
      rw [← hrow] at hur k1 k2 k3 hrm
      obtain ⟨aR, cR, rfl, IR⟩ := hur.ints
      have IR3 := IR.keep hK3
      have hrb := IR.bound
      have hcR0 := IR.at_ k k2
      rw [show row[k] = (j : Int) by rw [← k3, getD_get k2]] at hcR0
      obtain ⟨bR, oR, rfl, -, hcR0⟩ := hcR0
      have y8w := hK3.cell (by simp) y8
      have hcNw := hK3.cell (by simp) hcN
      have hix : ∀ W, Only [] W3 W → Calls Tryz.prog 119 #[.slice (some ⟨bR, oR, none⟩) row.length cR, .func (.func 120) #[] #[.pointer (some ⟨w.heap.size, 0, none⟩), .pointer (some ⟨w.heap.size + 1, 0, none⟩)]] W fun e w' => e = .returned (.int .i64 k) ∧ Only [] W w' := fun W hW => by
        have hq := IndexFunc_ints 120 #[.pointer (some ⟨w.heap.size, 0, none⟩), .pointer (some ⟨w.heap.size + 1, 0, none⟩)] (fun y => decide (D.getD y.toNat 0 < D.getD i 0)) Tryz.call120 (.slice (some ⟨bR, oR, none⟩) row.length cR) row _ W (IR3.keep hW).rd (fun y hy W' hW' => by
          obtain ⟨z, rfl, hz⟩ := hrm y hy
          rw [Int.toNat_natCast]
          have hKw := hK3.trans (hW.trans hW')
          refine descend_closure w.heap.size (w.heap.size + 1) (.slice (some ⟨bD, oD, none⟩) D.length cD) D _ i z W' ?_ ((HB2.out.keep (hW.trans hW')).cell 0 rfl) (ID.keep hKw).rd hid hz
          rw [HlD.out]; exact (hB1.keep (hW.trans hW')).cell 0 rfl)
        rw [k1] at hq; exact hq
      have Hix := Lib.hid hix
      have hlm : m + 1 = n := hm.symm
      have hm200 : m ≤ 200 := by omega
      have hlen1 : dn.length + 1 ≤ 1073741824 := by have := Hlen.out; omega
      have hsz1 : w1.heap.size ≤ W3.heap.size := hO.size
      have I3 := I1.only hO hf8
      have hlb := I1.bound
      obtain ⟨bl, ol, rfl, -, hcl⟩ := I3.at_ k hkl
      rw [hlk] at hcl
      have hki : (k : Int) < ls.length := by omega
      have hkr : (k : Int) < row.length := by omega
      have HcN := Lib.hid hcN
      have HcR := Lib.hid (show w.cell? ⟨bR, oR + k, none⟩ = some (.int .i64 j) from hcR0)
      have He9 := Lib.hid e9
      have He8 := Lib.hid e8
      have He7 := Lib.hid e7
      have Hm := Lib.hid hm
      clear hix hrm hm hrow IR hcR0 k1 k3 e9 e8 e7 hl hlk hla hDn IR3 hcN hur hdm hlm
      go_wp2
      go_region_held3 (fun w' => Only [] W3 w' ∧ w'.cell? ⟨g, 8, none⟩ = some (.slice (some ⟨bN, oN, none⟩) np cN) ∧ w'.cell? ⟨w.heap.size + 1, 0, none⟩ = some (.int .i64 i) ∧ w'.cell? ⟨bN, oN + i, none⟩ = some (.slice (some ⟨bR, oR, none⟩) row.length cR)) (((refine and_of ?_ (fun h__ => ⟨h__.cell (by simp) y8w, h__.cell (by simp) b2, h__.cell (by simp) hcNw⟩)); first | exact (Only.refl _ _).drew | exact ((Only.refl _ _).drewN _).drew | exact Only.trans (And.left (by assumption)) (by assumption) | exact Only.alloc (And.left (by assumption)) _ | assumption)) (first | (go_at_call 119; (with_reducible refine (Hix.out _ (And.left (by assumption))).mono ?_); rintro e w5 ⟨rfl, t5⟩) | fail "no arm")
      have k5 : Only [] W3 w5 := (Only.refl [] W3).trans (And.left (by assumption))
      have hA5 := HA.out.keep k5
      have HA5 := Lib.hid hA5
      have hcl5 := k5.cell (by simp) hcl
      have hO5 : Only [w.heap.size + 1] w1 w5 := hO.keepThen k5
      have hsz5 : w1.heap.size ≤ w5.heap.size := hO5.size
      have hK5 := hK3.trans k5
      have HB5 := Lib.hid (HB2.out.keep k5)
      clear hA5 hcl b1 b2 cI y8w hcNw I3
      go_upto_region 8 with (at_builtin; refine wpList_pushI rfl _ _ 25 rfl w1.heap.size 2 iI _ Tryz.underlying25 hiI hzI0 hzI1 hzI2 rfl w5 u9 dn rfl HA5.out ((Only.refl _ _).alloc _) hsz5 w5.heap.size 1 l rfl (lit1 w5 _ _ rfl) HIl.out hlen1 ?_; intro v9 w9 hA9 hO9 hP9 hN9)
      have hO9w : Only [w.heap.size + 1] w1 w9 := hO5.then_ (fp' := u9.ownBlock.toList) (((Only.refl _ _).alloc _).trans hO9) (fun b hb hlt => by have := (HA5.out.ownlt b (by simpa using hb)).1; omega)
      have hK9 : Only [] w w9 := hP9 w (hK5.alloc _) (by omega)
      have hib : w.heap.size + 1 ∉ u9.ownBlock.toList := fun hm => by have := (HA5.out.ownlt _ (by simpa using hm)).1; omega
      have hB9 : Blk w9 (w.heap.size + 1) [.int .i64 i] := (HB5.out.keep ((Only.refl _ _).alloc _)).only hO9 hib
      have kd : Only [] w9 w9.drew := (Only.refl _ _).drew
      have z0 := (hB9.keep kd).cell 0 rfl
      have z1 := (hB9.keep kd).frozen 0
      have z2 := (hK9.trans kd).cell (by simp) y8
      have z3 := (hK9.trans kd).cell (by simp) HcN.out
      have z4 := (hK9.trans kd).cell (by simp) HcR.out
      have hap : (v9.ownBlock ≠ some (w.heap.size + 1)) := fun e => by have := (hA9.ownlt _ e).1; omega
      have kf : Only [w.heap.size + 1] w9.drew (w9.drew.setCell ⟨w.heap.size + 1, 0, none⟩ (.int .i64 j)) := (Only.refl _ _).setCell (by simp) _
      have HBf := Lib.hid (show Blk (w9.drew.setCell ⟨w.heap.size + 1, 0, none⟩ (.int .i64 j)) (w.heap.size + 1) [.int .i64 j] from (hB9.keep kd).set 0 (.int .i64 j))
      have HAf := Lib.hid (show AccI w1.heap.size 2 (w9.drew.setCell ⟨w.heap.size + 1, 0, none⟩ (.int .i64 j)) v9 (dn ++ [l]) from (hA9.keep kd).only kf (fun b hb hm => hap (by rw [hb]; simp at hm; rw [hm])))
      have HOf := Lib.hid (show Only [w.heap.size + 1] w1 (w9.drew.setCell ⟨w.heap.size + 1, 0, none⟩ (.int .i64 j)) from (hO9w.drew).trans kf)
      have Hl1 := Lib.hid (show (dn ++ [l]).length + m = N by have := Hlen.out; have := Hm.out; rw [List.length_append, List.length_singleton]; omega)
      have Hl2 := Lib.hid (show (dn ++ [l]) ++ oW x T m (t.patterns.getD j []) = oW x T N s0 by rw [← Hcat.out, Hm.out, He9.out, List.append_assoc]; rfl)
      have Hl3 := Lib.hid (show wEnd x s0 (dn ++ [l]) = t.patterns.getD j [] by rw [wEnd_snoc, Hend.out, He8.out])
      have Hl4 := Lib.hid (show N - lenV v9 < N - lenV u9 by
        obtain ⟨_, _, ev⟩ := hA9.form
        obtain ⟨_, _, eu⟩ := HA5.out.form
        rw [ev, eu]
        show N - (dn ++ [l]).length < N - dn.length
        have := Hlen.out
        rw [List.length_append, List.length_singleton]; omega)
      clear hA9 hO9w hO9 hP9 hN9 hB9 HA5 HA HB5 HB2 hcl5 hO5 k5 t5 hB1 hO
      go_wp2
      go_region_law (fail)
      all_goals go_wp2_with fail
      all_goals exact ⟨⟨m, j, dn ++ [l], hm200, Hl1.out, hjp, He7.out, Hl2.out, Hl3.out, HBf.out, HAf.out, HOf.out⟩, Hl4.out⟩
    · obtain rfl : n = 0 := by omega
      have hfin : dn = oW x T N s0 := by have := Hcat.out; rwa [show oW x T 0 (t.patterns.getD i []) = [] from rfl, List.append_nil] at this
      have Hfin := Lib.hid hfin
      clear hfin
      go_wp2
      go_quiet (fail)
      go_wp2
      exact bodyPost_ret (v := .tuple #[u9, .int .i64 i, .bool true]) (by simp [results, Tryz.results66, go_sem]) rfl ⟨u9, i, rfl, by rw [← Hfin.out]; exact (HA.out.mono (by omega)).keep (Only.ofDrewN _ _ _), by rw [← Hnp.out]; exact hil, by rw [← Hfin.out, Hend.out], Hdi.out, hK3.drewN _⟩
end Go.Proofs.YtclhblofchfglaaGreat
