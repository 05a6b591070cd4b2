/- The reference's smallest optimal word (laws 20, 38). StateScramble, of the reference and of the program (law 54). -/
import Derived.Test.YtccdicgnolkepaaGreatRowStateScrambleG17
import Derived.Test.YtccdicgnolkepaaGreatRowStateScrambleG14
import Derived.Test.YtccdicgnolkepaaGreatRowStateScrambleG11
import Derived.Test.YtccdicgnolkepaaGreatRowStateScrambleG10
import Derived.Deep.RegionHeld3
import Derived.Test.YtccdicgnolkepaaGreatRowStateScrambleG9
import Derived.Test.YtccdicgnolkepaaGreatRowStateScrambleG3
namespace Go.Proofs.YtccdicgnolkepaaGreat
open Go.RowKit
set_option maxRecDepth 10000

/-- the way down from a state: the word so far (o), the state at hand (s2) -/
structure DWn (x : Puzzle) (t : Table) (w W0 : World) (e : TypeId) (G : List Nat) (wr : World) (o s2 : Value) (dn : List Int) (i : Nat) (f2 : List Nat) : Prop where
  acc : AccI w.heap.size e wr o dn
  rd : Rd wr s2 (t.patterns.getD i []) f2
  ap : ∀ b ∈ f2, o.ownBlock ≠ some b
  on : Only [] w wr
  kp : ∀ b ∈ G, wr.heap[b]? = W0.heap[b]?
  ga : ∀ b ∈ G, o.ownBlock ≠ some b
  gl : ∀ b ∈ G, b < wr.heap.size
section
variable {x : Puzzle} {t : Table} {w W0 : World} {e : TypeId} {G : List Nat} {wr w' : World} {o s2 : Value} {dn : List Int} {i : Nat} {f2 : List Nat}
theorem DWn.keep (h : DWn x t w W0 e G wr o s2 dn i f2) (ho : Only [] wr w') : DWn x t w W0 e G w' o s2 dn i f2 :=
  ⟨h.acc.keep ho, Rp.keep h.rd ho, h.ap, h.on.trans ho, fun b hb => (ho.block b (h.gl b hb) (by simp)).trans (h.kp b hb), h.ga, fun b hb => Nat.lt_of_lt_of_le (h.gl b hb) ho.size⟩
theorem DWn.old (h : DWn x t w W0 e G wr o s2 dn i f2) {β : Type} [Rp β] {cs : List Value} {y : β} {fp : List Nat} (hr : Rp.rep W0 cs y fp) (hf : ∀ b ∈ fp, b ∈ G) : Rp.rep wr cs y fp := Rp.frame hr fun b hb => h.kp b (hf b hb)
theorem DWn.blk (h : DWn x t w W0 e G wr o s2 dn i f2) {g : Nat} {cs : List Value} (hb : Blk W0 g cs) (hg : g ∈ G) : Blk wr g cs := by
  obtain ⟨ty, hb⟩ := hb
  exact ⟨ty, (h.kp g hg).trans hb⟩
theorem DWn.ints (h : DWn x t w W0 e G wr o s2 dn i f2) {a : Option Addr} {c : Nat} {l : List Int} {fp : List Nat} (hr : IntsA W0 a c l fp) (hf : ∀ b ∈ fp, b ∈ G) : IntsA wr a c l fp := hr.frame fun b hb => h.kp b (hf b hb)
theorem DWn.step {wa wb : World} {o' s3 : Value} {l : Int} {j : Nat} {f3 : List Nat} (h : DWn x t w W0 e G wr o s2 dn i f2) (hk : Only [] wr wa) (hA : AccI w.heap.size e wb o' (dn ++ [l])) (oA : Only o.ownBlock.toList wa wb) (nA : o'.ownBlock = o.ownBlock ∨ o'.ownBlock = some wa.heap.size)
    (hP : ∀ wz, Only [] wz wa → wz.heap.size ≤ w.heap.size → Only [] wz wb) (hr : Rd wa s3 (t.patterns.getD j []) f3) (hf : ∀ b ∈ f3, o.ownBlock ≠ some b) : DWn x t w W0 e G wb o' s3 (dn ++ [l]) j f3 := by
  have h1 := h.keep hk
  refine ⟨hA, Rp.only hr oA (fun b hb hm => hf b hb (by simpa using hm)), fun b hb => own_after nA (hf b hb) (Rp.lt hr b hb), hP w h1.on (Nat.le_refl _), fun b hb => ?_, fun b hb => own_after nA (h1.ga b hb) (h1.gl b hb), fun b hb => Nat.lt_of_lt_of_le (h1.gl b hb) oA.size⟩
  rw [oA.block b (h1.gl b hb) (fun hm => h1.ga b hb (by simpa using hm))]
  exact h1.kp b hb
end
theorem depT_at {x : Puzzle} {t : Table} (hb : Built x t) {i : Nat} (hi : i < t.patterns.length) {s : List Int} (h : t.patterns.getD i [] = s) : depT t s = t.distances.getD i 0 := by
  rw [← h]; exact depT_yes hb hi
set_option maxHeartbeats 8000000 in
theorem descendWord_any (cs : List Value) (x : Puzzle) (fp : List Nat) (t : Table) (B : Nat) (A1 A2 A3 : Option Addr) (n1 n2 n3 C1 C2 C3 : Nat) (wh : Bool) (u : Value) (fu : List Nat) (i0 N : Nat) (w : World) (h : Rp.rep w cs x fp)
    (hS : SrF B w x t (.agg #[.slice A1 n1 C1, .slice A2 n2 C2, .slice A3 n3 C3, .bool wh])) (he : expl x = some t) (hi0 : i0 < t.patterns.length) (hu : Rd w u (t.patterns.getD i0 []) fu) (hN : t.distances.getD i0 0 = N) :
    Calls Tryz.prog 55 #[.agg cs.toArray, .agg #[.slice A1 n1 C1, .slice A2 n2 C2, .slice A3 n3 C3, .bool wh], u] w fun e w' => ∃ v fp', e = .returned v ∧ Rd w' v (oW x t N (t.patterns.getD i0 [])) fp' ∧ Fresh w.heap.size w' fp' ∧ Only [] w w' := by
  have h0 := h
  obtain ⟨v2, rfl, p0, p1, h2⟩ := h
  clear p0 p1 h2
  obtain ⟨hb, -⟩ := expl_built he
  obtain ⟨q1, q20, q8, -⟩ := validPz_facts hb.v
  have hdep := (hb.dep i0 hi0).2.1
  have hll := hb.ll
  have hN3 : N ≤ 3000 := by omega
  have Hb := Lib.hid hb
  have He := Lib.hid he
  have Hd0 := Lib.hid ((depT_at hb hi0 rfl).trans hN)
  have Hl0 := Lib.hid (expl_len1 he hi0)
  have HN := Lib.hid hN
  clear he hN hb hdep
  have X0 : Blk (((w.alloc (.cells #[.int .i64 x.points, .string x.names, v2] 29)).alloc (.cells #[.slice A1 n1 C1, .slice A2 n2 C2, .slice A3 n3 C3, .bool wh] 66)).alloc (.cells #[] 2)) w.heap.size [.int .i64 x.points, .string x.names, v2] := ((Blk.new w [.int .i64 x.points, .string x.names, v2] 29).keep ((Only.refl _ _).alloc _)).keep ((Only.refl _ _).alloc _)
  have Y0 : Blk (((w.alloc (.cells #[.int .i64 x.points, .string x.names, v2] 29)).alloc (.cells #[.slice A1 n1 C1, .slice A2 n2 C2, .slice A3 n3 C3, .bool wh] 66)).alloc (.cells #[] 2)) (w.heap.size + 1) [.slice A1 n1 C1, .slice A2 n2 C2, .slice A3 n3 C3, .bool wh] := (Blk.new_at (w := w.alloc (.cells #[.int .i64 x.points, .string x.names, v2] 29)) (cs := [.slice A1 n1 C1, .slice A2 n2 C2, .slice A3 n3 C3, .bool wh]) (by simp)).keep ((Only.refl _ _).alloc _)
  obtain ⟨iI, hi, hz0, hz1, hz2⟩ := info_parts Tryz.info2
  obtain ⟨s0, hs0⟩ : ∃ s0, s0 = t.patterns.getD i0 [] := ⟨_, rfl⟩
  rw [← hs0] at Hd0 Hl0 hu
  have Hs0 := Lib.hid hs0
  rw [← hs0]
  clear hs0
  go_enter Tryz.func55, Tryz.ntmps55
  go_wp2_with (first
    | (go_at_call 85; (with_reducible refine (lettersOf_any [.int .i64 x.points, .string x.names, v2] x _ _ (Rp.keep h0 (by with_reducible repeat (first | exact Only.refl _ _ | assumption | refine Only.drewN ?_ _ | refine Only.drew ?_ | refine Only.alloc ?_ _ | refine Only.setCell ?_ (by intro hh; exfalso; simp at hh; try omega) _ | refine Only.trans ?_ (by assumption)))) (by omega)).mono ?_); rintro e w1 ⟨u1, f1, rfl, r1, F1, t1⟩; obtain ⟨a1, c1, rfl, I1⟩ := r1.ints; have Y1 := Y0.keep t1; have y0 := Y1.cell 0 rfl; have y1 := Y1.cell 1 rfl; have y2 := Y1.cell 2 rfl; have y3 := Y1.cell 3 rfl)
    | (go_at_call 84; (with_reducible refine (depthOf_any x t _ u s0 fu _ (SrF.keep hS (by with_reducible repeat (first | exact Only.refl _ _ | assumption | refine Only.drewN ?_ _ | refine Only.drew ?_ | refine Only.alloc ?_ _ | refine Only.setCell ?_ (by intro hh; exfalso; simp at hh; try omega) _ | refine Only.trans ?_ (by assumption)))) Hb.out (Rp.keep hu (by with_reducible repeat (first | exact Only.refl _ _ | assumption | refine Only.drewN ?_ _ | refine Only.drew ?_ | refine Only.alloc ?_ _ | refine Only.setCell ?_ (by intro hh; exfalso; simp at hh; try omega) _ | refine Only.trans ?_ (by assumption)))) Hl0.out).mono ?_); rintro e w2 ⟨he, t2⟩; rw [Hd0.out] at he; subst he)
    | fail "no arm")
  have K2 : Only [] w w2 := (by with_reducible repeat (first | exact Only.refl _ _ | assumption | refine Only.drewN ?_ _ | refine Only.drew ?_ | refine Only.alloc ?_ _ | refine Only.setCell ?_ (by intro hh; exfalso; simp at hh; try omega) _ | refine Only.trans ?_ (by assumption)))
  have X2 := (X0.keep t1).keep t2
  have Y2 := Y1.keep t2
  have I2 := I1.keep t2
  have hz1s := t1.size
  have hz2s := t2.size
  simp at hz1s
  obtain ⟨ls, hls⟩ : ∃ ls, ls = ltrs x.moves.length := ⟨_, rfl⟩
  rw [← hls] at I2 ⊢
  have Hls := Lib.hid hls
  have hf1 := F1.ge
  have hf1l := I2.lt
  have A0 : AccI w.heap.size 2 w2 (.slice (some ⟨w.heap.size + 2, 0, none⟩) 0 0) [] := ((AccI.made ((w.alloc (.cells #[.int .i64 x.points, .string x.names, v2] 29)).alloc (.cells #[.slice A1 n1 C1, .slice A2 n2 C2, .slice A3 n3 C3, .bool wh] 66)) w.heap.size 2 (by simp) (by omega)).keep t1).keep t2
  have D0 : DWn x t w w2 2 (f1 ++ [w.heap.size, w.heap.size + 1]) w2 (.slice (some ⟨w.heap.size + 2, 0, none⟩) 0 0) u [] i0 fu := by
    refine ⟨A0, by rw [← Hs0.out]; exact Rp.keep hu K2, fun b hb he => ?_, K2, fun _ _ => rfl, fun b hb he => ?_, fun b hb => ?_⟩
    · have := Rp.lt hu b hb; simp [Value.ownBlock] at he; omega
    · simp [Value.ownBlock] at he
      simp only [List.mem_append, List.mem_cons, List.not_mem_nil, or_false] at hb
      rcases hb with hb | hb | hb
      · have := hf1 b hb; simp at this; omega
      · omega
      · omega
    · simp only [List.mem_append, List.mem_cons, List.not_mem_nil, or_false] at hb
      rcases hb with hb | hb | hb
      · exact hf1l b hb
      · omega
      · omega
  clear X0 Y0 Y1 y0 y1 y2 y3 r1 F1 I1 A0 hls t1 t2 hz1s hf1 hf1l
  go_loopw [2, 7, 9] (fun s2 o d wr => ∃ (n i : Nat) (f2 : List Nat) (dn : List Int), d = .int .i64 n ∧ n ≤ 3000 ∧ dn.length + n = N ∧ i < t.patterns.length ∧ t.distances.getD i 0 = n ∧ dn ++ oW x t n (t.patterns.getD i []) = oW x t N s0 ∧ DWn x t w w2 2 (f1 ++ [w.heap.size, w.heap.size + 1]) wr o s2 dn i f2)
    (fun _ _ d _ => (intOf d).toNat)
  case atStart => exact ⟨N, i0, fu, [], rfl, hN3, by simp, hi0, HN.out, by rw [Hs0.out]; rfl, D0⟩
  case round =>
    obtain ⟨W3, hnew⟩ : ∃ W, W = wr := ⟨_, rfl⟩
    subst hnew
    obtain ⟨n, i, f2, dn, rfl, hn3, hlen, hil, hdi, hcat, hD⟩ := hrel
    have Hcat := Lib.hid hcat
    have Hdi := Lib.hid hdi
    have Hlen := Lib.hid hlen
    clear hcat hdi hlen
    by_cases hn : 0 < n
    · obtain ⟨m, hm⟩ : ∃ m, n = m + 1 := ⟨n - 1, by omega⟩
      have hm1 : m + 1 ≤ n := by omega
      have hm2 : n ≤ m + 1 := by omega
      have Hm := Lib.hid hm
      obtain ⟨k, j, hDn⟩ := Hb.out.down hil (n := m) (by rw [Hdi.out, hm]; push_cast; rfl)
      clear hm
      have hkl : k < ls.length := by rw [Hls.out]; exact hDn.hk
      have HDn := Lib.hid hDn
      clear hDn
      go_wp2
      go_loopw [2, 7, 10] (fun s2 o c wr => ∃ j' : Nat, j' ≤ k ∧ c = .int .i64 j' ∧ s2 = u2 ∧ o = u7 ∧ Only [] W3 wr)
        (fun _ _ c _ => ls.length - (intOf c).toNat)
      case atStart => exact ⟨0, Nat.zero_le _, rfl, rfl, rfl, Only.refl _ _⟩
      case round =>
        obtain ⟨j', hj', rfl, rfl, rfl, hK⟩ := hrel
        obtain ⟨W4, hnew⟩ : ∃ W, W = wr := ⟨_, rfl⟩
        subst hnew
        have hD4 := hD.keep hK
        have hjl : j' < ls.length := by omega
        have I4 := hD4.ints I2 (by intro b hb; simp [hb])
        have hlb := I4.bound
        obtain ⟨b3, off3, rfl, -, hc3⟩ := I4.at_ j' hjl
        have X4 := hD4.blk X2 (by simp)
        have Y4 := hD4.blk Y2 (by simp)
        have x0 := X4.cell 0 rfl
        have x1 := X4.cell 1 rfl
        have x2 := X4.cell 2 rfl
        have hrd := hD4.rd
        have K4 := hD4.on
        have hla : ls[j'] ∈ ltrs x.moves.length := by rw [← Hls.out]; exact List.getElem_mem hjl
        obtain ⟨i', hi', hnx, -, -⟩ := Hb.out.step hil hla
        have hpat := expl_pat He.out hil
        have Hrng := Lib.hid (patB_iff.1 hpat).2.1
        have hql : (t.patterns.getD i []).length ≤ 1000 := by rw [expl_len1 He.out hil]; omega
        have hI : I64 ls[j'] := by have := mem_ltrs.1 hla; unfold I64; omega
        have HI := Lib.hid hI
        have Hla := Lib.hid hla
        obtain ⟨cur, hcur⟩ : ∃ cur, cur = t.patterns.getD i [] := ⟨_, rfl⟩
        have Hcur := Lib.hid hcur
        rw [← hcur] at hrd hql hnx
        rw [← hcur] at Hrng
        clear hpat hla hI hcur
        have Hc := Lib.hid (fun (W : World) (hh : Only [] W4 W) => applyLetter_any [.int .i64 x.points, .string x.names, v2] x _ u2 cur _ ls[j'] W (Rp.keep h0 (K4.trans hh)) (Rp.keep hrd hh) Hb.out.v Hla.out Hrng.out hql)
        go_wp2
        go_region_held3 (fun w' => Only [] W4 w' ∧ w'.cell? ⟨w.heap.size, 0, none⟩ = some (.int .i64 x.points) ∧ w'.cell? ⟨w.heap.size, 1, none⟩ = some (.string x.names) ∧ w'.cell? ⟨w.heap.size, 2, none⟩ = some (v2) ∧ w'.cell? ⟨b3, off3 + j', none⟩ = some (.int .i64 ls[j'])) (((refine and_of ?_ (fun h__ => ⟨h__.cell (by simp) x0, h__.cell (by simp) x1, h__.cell (by simp) x2, h__.cell (by simp) hc3⟩)); first | exact (Only.refl _ _).drew | exact ((Only.refl _ _).drewN _).drew | exact Only.trans (And.left (by assumption)) (by assumption) | exact Only.alloc (And.left (by assumption)) _ | assumption)) (first | (go_at_call 86; (with_reducible refine (Hc.out _ (And.left (by assumption))).mono ?_); rintro e w5 ⟨u5, f5, rfl, r5, F5, t5⟩; have F5' := F5.mono (((Only.refl [] W4).trans (And.left (by assumption))).size)) | fail "no arm")
        have k5 : Only [] W4 w5 := (Only.refl [] W4).trans (And.left (by assumption))
        obtain ⟨s', hs'⟩ : ∃ s', s' = nxt x cur ls[j'] := ⟨_, rfl⟩
        rw [← hs'] at r5 hnx
        have Hl' := Lib.hid (show s'.length = x.points.toNat by rw [← hnx]; exact expl_len1 He.out hi')
        have hd' : depT t s' = t.distances.getD i' 0 := depT_at Hb.out hi' hnx
        have hS5 := SrF.keep hS (K4.trans k5)
        have Y5 := Y4.keep k5
        have y0 := Y5.cell 0 rfl
        have y1 := Y5.cell 1 rfl
        have y2 := Y5.cell 2 rfl
        have y3 := Y5.cell 3 rfl
        have I5 := I4.keep k5
        obtain ⟨b3', off3', e3, -, hc5⟩ := I5.at_ j' hjl
        injection e3 with e3; injection e3 with e3 e4; subst e3; subst e4
        have hD5 := hD4.keep k5
        have Hs' := Lib.hid hs'
        have Hnx := Lib.hid hnx
        have Hd' := Lib.hid hd'
        clear x0 x1 x2 hc3 X4 Y4 I4 Hc hrd hs' hnx hd'
        by_cases hjk : j' = k
        · subst hjk
          have hjj : t.patterns.getD j [] = s' := by rw [HDn.out.nx, Hs'.out, Hcur.out]; simp [Hls.out]
          have Hjj := Lib.hid hjj
          have Hdm := Lib.hid ((depT_at Hb.out HDn.out.hj hjj).trans HDn.out.ds : depT t s' = m)
          clear hjj
          have hdl : dn.length + 1 ≤ 1073741824 := by have := Hlen.out; omega
          have hcmp : ((m : Int) == (n : Int) - 1) = true := by simp; omega
          go_wp2_with (first
            | (go_at_call 84; (with_reducible refine (depthOf_any x t _ u5 s' f5 _ hS5 Hb.out (Rp.keep r5 (by with_reducible repeat (first | exact Only.refl _ _ | assumption | refine Only.drewN ?_ _ | refine Only.drew ?_ | refine Only.alloc ?_ _ | refine Only.setCell ?_ (by intro hh; exfalso; simp at hh; try omega) _ | refine Only.trans ?_ (by assumption)))) Hl'.out).mono ?_); rintro e w6 ⟨he, t6⟩; rw [Hdm.out] at he; subst he; have hc6 := t6.cell (by simp) hc5; have hD6 := hD5.keep t6; have hB6 := hD6.on.size)
            | (at_builtin; refine wpList_pushI rfl _ _ 26 rfl w.heap.size 2 iI _ Tryz.underlying26 hi hz0 hz1 hz2 rfl w6 _ dn rfl hD6.acc ((Only.refl _ _).alloc _) hB6 w6.heap.size 1 ls[j'] rfl (lit1 w6 _ _ rfl) HI.out hdl ?_; intro v9 w9 hA9 hO9 hP9 hN9)
            | fail "no arm")
          have hf5 : ∀ b ∈ f5, u7.ownBlock ≠ some b := fun b hb he => by
            obtain ⟨fs7, hA7⟩ := hD4.acc
            have := (hA7.ownlt b he).2
            have := F5'.ge b hb
            omega
          have hD9 := DWn.step hD6 ((Only.refl _ _).alloc _) hA9 hO9 hN9 hP9 (j := j) (Rp.keep (Rp.keep (show Rd w5 u5 (t.patterns.getD j []) f5 by rw [Hjj.out]; exact r5) t6) ((Only.refl _ _).alloc _)) hf5
          exact ⟨⟨m, j, f5, dn ++ [ls[j']], by congr 1; omega, by omega, by have := Hlen.out; simp; omega, HDn.out.hj, HDn.out.ds, by rw [← Hcat.out, Hm.out, HDn.out.oW_]; simp [Hls.out], hD9⟩, by simp [intOf]; omega⟩
        · have hne := (HDn.out.no j' (by omega) i' hi' (by rw [Hnx.out, Hs'.out, Hcur.out]; simp [Hls.out])).1
          have hdr := Hb.out.dep i' hi'
          obtain ⟨d', hd9⟩ : ∃ d', d' = t.distances.getD i' 0 := ⟨_, rfl⟩
          rw [← hd9] at hne hdr
          have Hdd := Lib.hid (Hd'.out.trans hd9.symm)
          have hcmp : (d' == (n : Int) - 1) = false := by simp; omega
          clear hd9 hne hdr
          go_wp2_with (first
            | (go_at_call 84; (with_reducible refine (depthOf_any x t _ u5 s' f5 _ hS5 Hb.out (Rp.keep r5 (by with_reducible repeat (first | exact Only.refl _ _ | assumption | refine Only.drewN ?_ _ | refine Only.drew ?_ | refine Only.alloc ?_ _ | refine Only.setCell ?_ (by intro hh; exfalso; simp at hh; try omega) _ | refine Only.trans ?_ (by assumption)))) Hl'.out).mono ?_); rintro e w6 ⟨he, t6⟩; rw [Hdd.out] at he; subst he)
            | fail "no arm")
          go_roundw
          case rel => exact ⟨j' + 1, by omega, by go_num, rfl, rfl, hK.trans (k5.trans t6)⟩
          case measure => simp [intOf]; omega
    · obtain rfl : n = 0 := by omega
      have hfin : dn = oW x t N s0 := by have := Hcat.out; rwa [show oW x t 0 (t.patterns.getD i []) = [] from rfl, List.append_nil] at this
      have Hfin := Lib.hid hfin
      clear hfin
      go_wp2
      go_ret
      exact ⟨_, _, rfl, by rw [← Hfin.out]; exact hD.acc.rd, hD.acc.fresh, hD.on⟩
theorem empty_rd (w : World) (e : TypeId) {g : Nat} (hg : g = w.heap.size) : Rd (w.alloc (.cells #[] e)) (.slice (some ⟨g, 0, none⟩) 0 0) ([] : List Int) [g] ∧ Fresh w.heap.size (w.alloc (.cells #[] e)) [g] := by
  subst hg
  exact ⟨(AccI.made w w.heap.size e rfl (Nat.le_refl _)).rd, (AccI.made w w.heap.size e rfl (Nat.le_refl _)).fresh⟩
set_option maxHeartbeats 4000000 in
theorem specOptimalWord_any (cs : List Value) (x : Puzzle) (fp : List Nat) (v : Value) (s : List Int) (fs : List Nat) (w : World) (h : Rp.rep w cs x fp) (hs : Rd w v s fs) :
    Calls Tryz.prog 30 #[.agg cs.toArray, v] w fun e w' => ∃ u fp', e = .returned (.tuple #[u, .bool (optX x s).isSome]) ∧ Rd w' u ((optX x s).getD []) fp' ∧ Fresh w.heap.size w' fp' ∧ Only [] w w' := by
  have h0 := h
  obtain ⟨v2, rfl, p0, p1, h2⟩ := h
  clear p0 p1 h2
  have X0 : Blk (w.alloc (.cells #[.int .i64 x.points, .string x.names, v2] 29)) w.heap.size [.int .i64 x.points, .string x.names, v2] := Blk.new w [.int .i64 x.points, .string x.names, v2] 29
  by_cases hd : 0 ≤ distX x s
  · have hdb : decide (0 ≤ distX x s) = true := decide_eq_true hd
    have Hdb := Lib.hid hdb
    have hrg : distX x s ≤ 3000 ∧ reachB x s = true ∧ ∃ t, expl x = some t := by
      rcases distX_or x s with h1 | h1
      · omega
      · exact h1.2
    obtain ⟨hd3, hr, t, ht⟩ := hrg
    by_cases h200 : distX x s ≤ 200
    · obtain ⟨i, hi, e1, -, e2, -, -⟩ := distX_yes ht hr
      have Hn := Lib.hid (optX_yes ht ⟨hd, h200⟩)
      have Ht := Lib.hid ht
      obtain ⟨d, hdd⟩ : ∃ d : Nat, distX x s = (d : Int) := ⟨_, (Int.toNat_of_nonneg hd).symm⟩
      have E1 := Lib.hid e1
      have E2 := Lib.hid (e2.symm.trans hdd)
      have Hdd := Lib.hid hdd
      have hd2 : (d : Int) ≤ 200 := by omega
      clear hdb hr ht e1 e2 hd h200 hdd hd3
      go_enter Tryz.func30, Tryz.ntmps30
      go_wp2_with (first
        | (go_at_call 54; (with_reducible refine (searchState_any [.int .i64 x.points, .string x.names, v2] x _ v s _ _ (Rp.keep h0 (by with_reducible repeat (first | exact Only.refl _ _ | assumption | refine Only.drewN ?_ _ | refine Only.drew ?_ | refine Only.alloc ?_ _ | refine Only.setCell ?_ (by intro hh; exfalso; simp at hh; try omega) _ | refine Only.trans ?_ (by assumption)))) (Rp.keep hs (by with_reducible repeat (first | exact Only.refl _ _ | assumption | refine Only.drewN ?_ _ | refine Only.drew ?_ | refine Only.alloc ?_ _ | refine Only.setCell ?_ (by intro hh; exfalso; simp at hh; try omega) _ | refine Only.trans ?_ (by assumption))))).mono ?_); rintro e w1 ⟨A1, n1, C1, A2, n2, C2, A3, n3, C3, wh, he, q1, t1⟩; rw [Hdb.out, Hdd.out] at he; subst he; have Z := Blk.new w1 [.slice none 0 0, .slice none 0 0, .slice none 0 0, .bool false] 66; have z0 := Z.cell 0 rfl; have z1 := Z.cell 1 rfl; have z2 := Z.cell 2 rfl; have z3 := Z.cell 3 rfl; have zp0 := Z.frozen 0; have zp1 := Z.frozen 1; have zp2 := Z.frozen 2; have zp3 := Z.frozen 3; have hS := Lib.hid (SrF.keep (q1 t Ht.out) ((Only.refl [] w1).alloc (.cells #[.slice A1 n1 C1, .slice A2 n2 C2, .slice A3 n3 C3, .bool wh] 66))); clear q1; have X1 := (X0.keep t1).keep ((Only.refl [] _).alloc (.cells #[.slice A1 n1 C1, .slice A2 n2 C2, .slice A3 n3 C3, .bool wh] 66)); have x0 := X1.cell 0 rfl; have x1 := X1.cell 1 rfl; have x2 := X1.cell 2 rfl; have U1 := Blk.new w1 [.slice A1 n1 C1, .slice A2 n2 C2, .slice A3 n3 C3, .bool wh] 66; have a0 := U1.cell 0 rfl; have a1 := U1.cell 1 rfl; have a2 := U1.cell 2 rfl; have a3 := U1.cell 3 rfl; have hs1 : Rd (w1.alloc (.cells #[.slice A1 n1 C1, .slice A2 n2 C2, .slice A3 n3 C3, .bool wh] 66)) v (t.patterns.getD i []) fs := (by rw [E1.out]; exact Rp.keep hs (by with_reducible repeat (first | exact Only.refl _ _ | assumption | refine Only.drewN ?_ _ | refine Only.drew ?_ | refine Only.alloc ?_ _ | refine Only.setCell ?_ (by intro hh; exfalso; simp at hh; try omega) _ | refine Only.trans ?_ (by assumption)))))
        | (go_at_call 55; (with_reducible refine (descendWord_any [.int .i64 x.points, .string x.names, v2] x _ t _ A1 A2 A3 n1 n2 n3 C1 C2 C3 wh v fs i d _ (Rp.keep h0 (by with_reducible repeat (first | exact Only.refl _ _ | assumption | refine Only.drewN ?_ _ | refine Only.drew ?_ | refine Only.alloc ?_ _ | refine Only.setCell ?_ (by intro hh; exfalso; simp at hh; try omega) _ | refine Only.trans ?_ (by assumption)))) hS.out Ht.out hi hs1 E2.out).mono ?_); rintro e w2 ⟨u2, f2, rfl, r2, F2, t2⟩)
        | fail "no arm")
      have K2 : Only [] w w2 := (by with_reducible repeat (first | exact Only.refl _ _ | assumption | refine Only.drewN ?_ _ | refine Only.drew ?_ | refine Only.alloc ?_ _ | refine Only.setCell ?_ (by intro hh; exfalso; simp at hh; try omega) _ | refine Only.trans ?_ (by assumption)))
      have hsz := t1.size
      simp at hsz
      have hfin : (optX x s).getD [] = oW x t d (t.patterns.getD i []) := by rw [Hn.out, E1.out, Hdd.out]; rfl
      have hsm : (optX x s).isSome = true := by rw [Hn.out]; rfl
      exact bodyPost_ret (v := .tuple #[u2, .bool true]) (by simp [results, Tryz.results30, go_sem]) rfl ⟨u2, f2, by rw [hsm], by rw [hfin]; exact r2, F2.mono (by simp; omega), K2⟩
    · have Hn := Lib.hid (optX_no (x := x) (s := s) (fun hh => h200 hh.2))
      have hd2 : 200 < distX x s := by omega
      clear hdb hr ht h200
      go_enter Tryz.func30, Tryz.ntmps30
      go_wp2_with (first
        | (go_at_call 54; (with_reducible refine (searchState_any [.int .i64 x.points, .string x.names, v2] x _ v s _ _ (Rp.keep h0 (by with_reducible repeat (first | exact Only.refl _ _ | assumption | refine Only.drewN ?_ _ | refine Only.drew ?_ | refine Only.alloc ?_ _ | refine Only.setCell ?_ (by intro hh; exfalso; simp at hh; try omega) _ | refine Only.trans ?_ (by assumption)))) (Rp.keep hs (by with_reducible repeat (first | exact Only.refl _ _ | assumption | refine Only.drewN ?_ _ | refine Only.drew ?_ | refine Only.alloc ?_ _ | refine Only.setCell ?_ (by intro hh; exfalso; simp at hh; try omega) _ | refine Only.trans ?_ (by assumption))))).mono ?_); rintro e w1 ⟨A1, n1, C1, A2, n2, C2, A3, n3, C3, wh, he, q1, t1⟩; rw [Hdb.out] at he; subst he; clear q1; have Z := Blk.new w1 [.slice none 0 0, .slice none 0 0, .slice none 0 0, .bool false] 66; have z0 := Z.cell 0 rfl; have z1 := Z.cell 1 rfl; have z2 := Z.cell 2 rfl; have z3 := Z.cell 3 rfl; have zp0 := Z.frozen 0; have zp1 := Z.frozen 1; have zp2 := Z.frozen 2; have zp3 := Z.frozen 3)
        | fail "no arm")
      have K2 : Only [] w ((w1.alloc (.cells #[.slice A1 n1 C1, .slice A2 n2 C2, .slice A3 n3 C3, .bool wh] 66)).alloc (.cells #[] 2)) := (by with_reducible repeat (first | exact Only.refl _ _ | assumption | refine Only.drewN ?_ _ | refine Only.drew ?_ | refine Only.alloc ?_ _ | refine Only.setCell ?_ (by intro hh; exfalso; simp at hh; try omega) _ | refine Only.trans ?_ (by assumption)))
      have K3 : Only [] w (w1.alloc (.cells #[.slice A1 n1 C1, .slice A2 n2 C2, .slice A3 n3 C3, .bool wh] 66)) := (by with_reducible repeat (first | exact Only.refl _ _ | assumption | refine Only.drewN ?_ _ | refine Only.drew ?_ | refine Only.alloc ?_ _ | refine Only.setCell ?_ (by intro hh; exfalso; simp at hh; try omega) _ | refine Only.trans ?_ (by assumption)))
      obtain ⟨hE, hF⟩ := empty_rd (w1.alloc (.cells #[.slice A1 n1 C1, .slice A2 n2 C2, .slice A3 n3 C3, .bool wh] 66)) 2 (g := w1.heap.size + 1) (by simp)
      exact bodyPost_ret (v := .tuple #[.slice (some ⟨w1.heap.size + 1, 0, none⟩) 0 0, .bool false]) (by simp [results, Tryz.results30, go_sem]) rfl ⟨_, _, by rw [Hn.out]; rfl, by rw [Hn.out]; exact hE, hF.mono K3.size, K2⟩
  · have hn1 : distX x s = -1 := by
      rcases distX_or x s with h1 | h1
      · exact h1
      · omega
    have hdb : decide (0 ≤ distX x s) = false := decide_eq_false hd
    have Hdb := Lib.hid hdb
    have Hn := Lib.hid (optX_no (x := x) (s := s) (fun hh => hd hh.1))
    clear hdb hd hn1
    go_enter Tryz.func30, Tryz.ntmps30
    go_wp2_with (first
      | (go_at_call 54; (with_reducible refine (searchState_any [.int .i64 x.points, .string x.names, v2] x _ v s _ _ (Rp.keep h0 (by with_reducible repeat (first | exact Only.refl _ _ | assumption | refine Only.drewN ?_ _ | refine Only.drew ?_ | refine Only.alloc ?_ _ | refine Only.setCell ?_ (by intro hh; exfalso; simp at hh; try omega) _ | refine Only.trans ?_ (by assumption)))) (Rp.keep hs (by with_reducible repeat (first | exact Only.refl _ _ | assumption | refine Only.drewN ?_ _ | refine Only.drew ?_ | refine Only.alloc ?_ _ | refine Only.setCell ?_ (by intro hh; exfalso; simp at hh; try omega) _ | refine Only.trans ?_ (by assumption))))).mono ?_); rintro e w1 ⟨A1, n1, C1, A2, n2, C2, A3, n3, C3, wh, he, q1, t1⟩; rw [Hdb.out] at he; subst he; clear q1; have Z := Blk.new w1 [.slice none 0 0, .slice none 0 0, .slice none 0 0, .bool false] 66; have z0 := Z.cell 0 rfl; have z1 := Z.cell 1 rfl; have z2 := Z.cell 2 rfl; have z3 := Z.cell 3 rfl; have zp0 := Z.frozen 0; have zp1 := Z.frozen 1; have zp2 := Z.frozen 2; have zp3 := Z.frozen 3)
      | fail "no arm")
    have K2 : Only [] w ((w1.alloc (.cells #[.slice A1 n1 C1, .slice A2 n2 C2, .slice A3 n3 C3, .bool wh] 66)).alloc (.cells #[] 2)) := (by with_reducible repeat (first | exact Only.refl _ _ | assumption | refine Only.drewN ?_ _ | refine Only.drew ?_ | refine Only.alloc ?_ _ | refine Only.setCell ?_ (by intro hh; exfalso; simp at hh; try omega) _ | refine Only.trans ?_ (by assumption)))
    have K3 : Only [] w (w1.alloc (.cells #[.slice A1 n1 C1, .slice A2 n2 C2, .slice A3 n3 C3, .bool wh] 66)) := (by with_reducible repeat (first | exact Only.refl _ _ | assumption | refine Only.drewN ?_ _ | refine Only.drew ?_ | refine Only.alloc ?_ _ | refine Only.setCell ?_ (by intro hh; exfalso; simp at hh; try omega) _ | refine Only.trans ?_ (by assumption)))
    obtain ⟨hE, hF⟩ := empty_rd (w1.alloc (.cells #[.slice A1 n1 C1, .slice A2 n2 C2, .slice A3 n3 C3, .bool wh] 66)) 2 (g := w1.heap.size + 1) (by simp)
    exact bodyPost_ret (v := .tuple #[.slice (some ⟨w1.heap.size + 1, 0, none⟩) 0 0, .bool false]) (by simp [results, Tryz.results30, go_sem]) rfl ⟨_, _, by rw [Hn.out]; rfl, by rw [Hn.out]; exact hE, hF.mono K3.size, K2⟩
end Go.Proofs.YtccdicgnolkepaaGreat

namespace Go.Proofs.YtccdicgnolkepaaGreat
open Go.RowKit
set_option maxRecDepth 10000

noncomputable def stScr (x : Puzzle) (seed : Int) : Option (List Int) := if (rndS x seed).2 = true then optX x (PM.inv (rndS x seed).1) else none
theorem stScr_no {x : Puzzle} {seed : Int} (h : (rndS x seed).2 = false) : stScr x seed = none := by unfold stScr; rw [if_neg (by rw [h]; simp)]
theorem stScr_yes {x : Puzzle} {seed : Int} (h : (rndS x seed).2 = true) : stScr x seed = optX x (PM.inv (rndS x seed).1) := by unfold stScr; rw [if_pos h]
theorem rndS_valid {x : Puzzle} {seed : Int} (h : (rndS x seed).2 = true) : validPz x = true ∧ (rndS x seed).1 = memAt x.points.toNat x.moves (rstK x.points.toNat x.moves seed) := by
  unfold rndS at h ⊢
  split at h
  · rename_i hc; rw [if_pos hc]; exact ⟨hc.1, rfl⟩
  · cases h
theorem optX_noexpl {x : Puzzle} {s : List Int} (h : expl x = none) : optX x s = none := optX_no (fun hh => by rw [distX_none h] at hh; omega)
theorem chain_ex (n : Int) (vg : Value) (gens : List (List Int)) (fpg : List Nat) (w : World) (hg : Rd w vg gens fpg) (hgs : gensB n gens = true) : ∃ G T, PM.Chain n.toNat gens G T := by
  obtain ⟨e, w', fr, ⟨L, gv, G, T, M, F, -, -, -, -, h, -⟩, -⟩ := rsChain_i n vg gens fpg w hg hgs []
  exact ⟨G, T, h⟩
theorem memAt_grp {n : Nat} {gens : List (List Int)} {k : Nat} (hn : 0 < n) (hp : ∀ g ∈ gens, PM.PN n g) (h : ∃ G T, PM.Chain n gens G T) : PM.Grp n gens (memAt n gens k) := by
  obtain ⟨G, T, h⟩ := h
  exact h.descG_grp hn hp (msel n gens k) (msel_good h hn hp k)
theorem rndS_grp (cs : List Value) (x : Puzzle) (fp : List Nat) (seed : Int) (w : World) (h : Rp.rep w cs x fp) (hs : (rndS x seed).2 = true) : PM.Grp x.points.toNat x.moves (rndS x seed).1 := by
  obtain ⟨v2, rfl, p0, p1, h2⟩ := h
  obtain ⟨h3, h4⟩ := rndS_valid hs
  have hg := validPz_gensB h3
  obtain ⟨⟨n1, n20⟩, -, hp⟩ := gensB_iff.1 hg
  rw [h4]
  exact memAt_grp (by omega) hp (chain_ex x.points v2 x.moves _ w h2 hg)
/-- a member has a place among the states -/
theorem expl_place {x : Puzzle} {t : Table} {s : List Int} (he : expl x = some t) (hs : PM.Grp x.points.toNat x.moves s) : ∃ i : Nat, i < t.patterns.length ∧ t.patterns.getD i [] = s := by
  have hm := (expl_mem he).2 hs
  obtain ⟨i, hi, e⟩ := List.getElem_of_mem hm
  exact ⟨i, hi, by rw [getD_get hi, e]⟩
set_option maxHeartbeats 2000000 in
theorem at_yes (x : Puzzle) (t : Table) (v u : Value) (s : List Int) (f : List Nat) (i : Nat) (w : World) (h : Exp w x t v) (he : expl x = some t) (hu : Rd w u s f) (hi : i < t.patterns.length) (hs : t.patterns.getD i [] = s) :
    Calls Tryz.prog 67 #[v, u] w fun e w' => e = .returned (.int .i64 i) ∧ Only [] w w' := by
  obtain ⟨g, M, v2, us, ud, up, uy, un, fm, f1, f2, f3, k, rfl, hB, hp, -, -, -, hM⟩ := h
  obtain ⟨hb, -⟩ := expl_built he
  have hsl : s.length ≤ 1000 := by
    rw [← hs, expl_len1 he hi]
    have := validPz_facts hb.v; omega
  have hkz : (kB s).size ≤ maxLen := by rw [kB_size]; unfold maxLen; omega
  have hmem : s ∈ t.patterns := by rw [← hs]; exact hb.mem_of hi
  obtain ⟨i', -, e1, e2⟩ := pre_in he List.prefix_rfl hmem
  have hii : i' = i := by have := hb.idx hi; rw [hs] at this; omega
  rw [hii] at e2
  have Hfg := Lib.hid e2
  clear hii e1 he hs hmem e2 hb
  have y5 := hB.cell 5 rfl
  go_enter Tryz.func67, Tryz.ntmps67
  go_upto_region 1 with fail
  go_region_held3 (fun w' => Only [] w w' ∧ w'.cell? ⟨g, 5, none⟩ = some (.map (some M))) (((refine and_of ?_ (fun h__ => h__.cell (by simp) y5)); first | exact (Only.refl _ _).drew | exact ((Only.refl _ _).drewN _).drew | exact Only.trans (And.left (by assumption)) (by assumption) | exact Only.alloc (And.left (by assumption)) _ | assumption)) (first | (go_at_call 95; (with_reducible refine (stateKey_rd u s _ _ (Rp.keep hu (And.left (by assumption))) hsl).mono ?_); rintro e w5 ⟨rfl, t5⟩; have hO5 := Only.trans (And.left (by assumption)) t5; have hrun5 := (hM.keep hO5).run_at_yes hkz Hfg.out) | fail "no arm")
  go_wp2
  exact bodyPost_ret (v := .int .i64 i) (by simp [results, Tryz.results67, go_sem]) rfl ⟨rfl, hO5⟩
theorem implIdentity_e (n : Int) (w : World) (h0 : 0 ≤ n) (h1 : n ≤ 1000) :
    Calls Tryz.prog 20 #[.int .i64 n] w fun e w' => ∃ v fp', e = .returned v ∧ Rd w' v (PM.pts n.toNat) fp' ∧ Fresh w.heap.size w' fp' ∧ Only [] w w' := by
  obtain ⟨m, rfl⟩ := Int.eq_ofNat_of_zero_le h0
  exact implIdentity_any m w (by omega)
set_option maxHeartbeats 2000000 in
theorem between_no (cs : List Value) (x : Puzzle) (fp : List Nat) (va vb : Value) (w : World) (h : Rp.rep w cs x fp) (he : expl x = none) :
    Calls Tryz.prog 38 #[.agg cs.toArray, va, vb] w fun e w' => e = .returned (.tuple #[.pointer none, .int .i64 0, .bool false]) ∧ Only [] w w' := by
  have h0 := h
  obtain ⟨v2, rfl, p0, p1, h2⟩ := h
  have He := Lib.hid he
  clear p0 p1 h2 he
  go_enter Tryz.func38, Tryz.ntmps38
  go_wp2_with (first
    | (go_at_call 65; (with_reducible refine (exploreState_none [.int .i64 x.points, .string x.names, v2] x _ _ _ (Rp.keep h0 (by with_reducible repeat (first | exact Only.refl _ _ | assumption | refine Only.drewN ?_ _ | refine Only.drew ?_ | refine Only.alloc ?_ _ | refine Only.setCell ?_ (by intro hh; exfalso; simp at hh; try omega) _ | refine Only.trans ?_ (by assumption)))) He.out).mono ?_); rintro e w1 ⟨rfl, t1⟩)
    | fail "no arm")
  exact bodyPost_ret (v := .tuple #[.pointer none, .int .i64 0, .bool false]) (by simp [results, Tryz.results38, go_sem]) rfl ⟨rfl, (by with_reducible repeat (first | exact Only.refl _ _ | assumption | refine Only.drewN ?_ _ | refine Only.drew ?_ | refine Only.alloc ?_ _ | refine Only.setCell ?_ (by intro hh; exfalso; simp at hh; try omega) _ | refine Only.trans ?_ (by assumption)))⟩
set_option maxHeartbeats 2000000 in
theorem between_yes (cs : List Value) (x : Puzzle) (t : Table) (fp : List Nat) (va vb : Value) (b : List Int) (fa fb : List Nat) (j : Nat) (w : World) (h : Rp.rep w cs x fp) (ha : Rd w va (PM.pts x.points.toNat) fa) (hb : Rd w vb b fb) (he : expl x = some t) (hg : PM.Grp x.points.toNat x.moves b) (hj : j < t.patterns.length) (hjs : t.patterns.getD j [] = PM.inv b) :
    Calls Tryz.prog 38 #[.agg cs.toArray, va, vb] w fun e w' => ∃ z, e = .returned (.tuple #[z, .int .i64 j, .bool true]) ∧ Exp w' x t z ∧ Only [] w w' := by
  have h0 := h
  obtain ⟨v2, rfl, p0, p1, h2⟩ := h
  obtain ⟨hbt, -⟩ := expl_built he
  have hf := validPz_facts hbt.v
  have hpn : PM.PN x.points.toNat b := hg.pn (validPz_pn hbt.v)
  obtain ⟨i0, hi0, e0⟩ := expl_place he (PM.Grp.id (n := x.points.toNat) (G := x.moves))
  obtain ⟨i1, hi1, e1⟩ := expl_place he hg
  have hcm : PM.comp (PM.inv b) (PM.pts x.points.toNat) = PM.inv b := PM.comp_id hpn.inv
  have He := Lib.hid he
  have E0 := Lib.hid e0
  have E1 := Lib.hid e1
  have Hjs := Lib.hid (hjs.trans hcm.symm)
  have Hpn := Lib.hid hpn
  have hn1000 : x.points.toNat ≤ 1000 := by omega
  have Hn := Lib.hid hn1000
  have Hbl := Lib.hid (show b.length ≤ 1000 by rw [hpn.1]; omega)
  have HIp : Hid (PM.IsP b) := Lib.hid hpn.2
  have HPi := Lib.hid hpn.inv
  clear p0 p1 h2 he e0 e1 hjs hcm hpn hbt hg hf hn1000
  go_enter Tryz.func38, Tryz.ntmps38
  go_wp2_with (first
    | (go_at_call 65; (with_reducible refine (exploreState_yes [.int .i64 x.points, .string x.names, v2] x t _ va _ fa i0 _ (Rp.keep h0 (by with_reducible repeat (first | exact Only.refl _ _ | assumption | refine Only.drewN ?_ _ | refine Only.drew ?_ | refine Only.alloc ?_ _ | refine Only.setCell ?_ (by intro hh; exfalso; simp at hh; try omega) _ | refine Only.trans ?_ (by assumption)))) (Rp.keep ha (by with_reducible repeat (first | exact Only.refl _ _ | assumption | refine Only.drewN ?_ _ | refine Only.drew ?_ | refine Only.alloc ?_ _ | refine Only.setCell ?_ (by intro hh; exfalso; simp at hh; try omega) _ | refine Only.trans ?_ (by assumption)))) He.out hi0 E0.out).mono ?_); rintro e w1 ⟨z, rfl, hX, t1⟩; have k1 : Only [] w w1 := (by with_reducible repeat (first | exact Only.refl _ _ | assumption | refine Only.drewN ?_ _ | refine Only.drew ?_ | refine Only.alloc ?_ _ | refine Only.setCell ?_ (by intro hh; exfalso; simp at hh; try omega) _ | refine Only.trans ?_ (by assumption))))
    | (go_at_call 66; (with_reducible refine (find_yes x t z vb b fb i1 _ hX He.out (Rp.keep hb k1) hi1 E1.out).mono ?_); rintro e w2 ⟨rfl, t2⟩)
    | (go_at_call 69; (with_reducible refine (implInverse0_rd vb b fb w2 (Rp.keep hb (k1.trans t2)) HIp.out Hbl.out).mono ?_); rintro e w3 ⟨v3, f3, rfl, r3, F3, t3⟩)
    | (go_at_call 68; (with_reducible refine (implCompose_rd x.points.toNat v3 va _ _ f3 fa w3 r3 (Rp.keep ha ((k1.trans t2).trans t3)) HPi.out (PM.PN.id _) Hn.out).mono ?_); rintro e w4 ⟨v4, f4, rfl, r4, F4, t4⟩)
    | (go_at_call 67; (with_reducible refine (at_yes x t z v4 _ f4 j w4 (((hX.keep t2).keep t3).keep t4) He.out r4 hj Hjs.out).mono ?_); rintro e w5 ⟨rfl, t5⟩)
    | fail "no arm")
  exact bodyPost_ret (v := .tuple #[z, .int .i64 j, .bool true]) (by simp [results, Tryz.results38, go_sem]) rfl ⟨z, rfl, (((hX.keep t2).keep t3).keep t4).keep t5, (((k1.trans t2).trans t3).trans t4).trans t5⟩
set_option maxHeartbeats 2000000 in
theorem implWordBetween_id (cs : List Value) (x : Puzzle) (fp : List Nat) (va vb : Value) (b : List Int) (fa fb : List Nat) (w : World) (h : Rp.rep w cs x fp) (ha : Rd w va (PM.pts x.points.toNat) fa) (hb : Rd w vb b fb) (hg : PM.Grp x.points.toNat x.moves b) :
    Calls Tryz.prog 19 #[.agg cs.toArray, va, vb] w fun e w' => ∃ u fp', e = .returned (.tuple #[u, .bool (optX x (PM.inv b)).isSome]) ∧ Rd w' u ((optX x (PM.inv b)).getD []) fp' ∧ Fresh w.heap.size w' fp' ∧ Only [] w w' := by
  have h0 := h
  obtain ⟨v2, rfl, p0, p1, h2⟩ := h
  clear p0 p1 h2
  rcases he : expl x with _ | t
  · have Hn := Lib.hid (optX_noexpl (s := PM.inv b) he)
    have He := Lib.hid he
    clear he
    go_enter Tryz.func19, Tryz.ntmps19
    go_wp2_with (first
      | (go_at_call 38; (with_reducible refine (between_no [.int .i64 x.points, .string x.names, v2] x _ va vb _ (Rp.keep h0 (by with_reducible repeat (first | exact Only.refl _ _ | assumption | refine Only.drewN ?_ _ | refine Only.drew ?_ | refine Only.alloc ?_ _ | refine Only.setCell ?_ (by intro hh; exfalso; simp at hh; try omega) _ | refine Only.trans ?_ (by assumption)))) He.out).mono ?_); rintro e w1 ⟨rfl, t1⟩)
      | fail "no arm")
    exact bodyPost_ret (v := .tuple #[.slice none 0 0, .bool false]) (by simp [results, Tryz.results19, go_sem]) rfl ⟨.slice none 0 0, [], by rw [Hn.out]; rfl, by rw [Hn.out]; exact nil_rd _, Fresh.nil _ _, (by with_reducible repeat (first | exact Only.refl _ _ | assumption | refine Only.drewN ?_ _ | refine Only.drew ?_ | refine Only.alloc ?_ _ | refine Only.setCell ?_ (by intro hh; exfalso; simp at hh; try omega) _ | refine Only.trans ?_ (by assumption)))⟩
  · obtain ⟨hbt, -⟩ := expl_built he
    have hgi : PM.Grp x.points.toNat x.moves (PM.inv b) := hg.inv (validPz_pn hbt.v)
    obtain ⟨i, hi, e1, -, e2, hd0, hd3⟩ := distX_yes he ((expl_reach he).1 ((expl_mem he).2 hgi))
    obtain ⟨N, hN⟩ : ∃ N : Nat, t.distances.getD i 0 = (N : Int) := ⟨_, (Int.toNat_of_nonneg hd0).symm⟩
    have He := Lib.hid he
    have E1 := Lib.hid e1
    have HN := Lib.hid hN
    have Hg := Lib.hid hg
    by_cases h200 : N ≤ 200
    · have hox := optX_yes he (s := PM.inv b) ⟨by omega, by omega⟩
      rw [e2, hN, Int.toNat_natCast] at hox
      have Hn := Lib.hid hox
      clear he hg hgi hbt e1 e2 hN hox hd0 hd3
      go_enter Tryz.func19, Tryz.ntmps19
      go_wp2_with (first
        | (go_at_call 38; (with_reducible refine (between_yes [.int .i64 x.points, .string x.names, v2] x t _ va vb b fa fb i _ (Rp.keep h0 (by with_reducible repeat (first | exact Only.refl _ _ | assumption | refine Only.drewN ?_ _ | refine Only.drew ?_ | refine Only.alloc ?_ _ | refine Only.setCell ?_ (by intro hh; exfalso; simp at hh; try omega) _ | refine Only.trans ?_ (by assumption)))) (Rp.keep ha (by with_reducible repeat (first | exact Only.refl _ _ | assumption | refine Only.drewN ?_ _ | refine Only.drew ?_ | refine Only.alloc ?_ _ | refine Only.setCell ?_ (by intro hh; exfalso; simp at hh; try omega) _ | refine Only.trans ?_ (by assumption)))) (Rp.keep hb (by with_reducible repeat (first | exact Only.refl _ _ | assumption | refine Only.drewN ?_ _ | refine Only.drew ?_ | refine Only.alloc ?_ _ | refine Only.setCell ?_ (by intro hh; exfalso; simp at hh; try omega) _ | refine Only.trans ?_ (by assumption)))) He.out Hg.out hi E1.out).mono ?_); rintro e w1 ⟨z, rfl, hX, t1⟩)
        | (go_at_call 39; (with_reducible refine (optimalWord_any x t z i N _ (hX.keep (by with_reducible repeat (first | exact Only.refl _ _ | assumption | refine Only.drewN ?_ _ | refine Only.drew ?_ | refine Only.alloc ?_ _ | refine Only.setCell ?_ (by intro hh; exfalso; simp at hh; try omega) _ | refine Only.trans ?_ (by assumption)))) He.out hi HN.out h200).mono ?_); rintro e w2 ⟨u2, f2, rfl, r2, F2, t2⟩)
        | fail "no arm")
      have K2 : Only [] w w2 := (by with_reducible repeat (first | exact Only.refl _ _ | assumption | refine Only.drewN ?_ _ | refine Only.drew ?_ | refine Only.alloc ?_ _ | refine Only.setCell ?_ (by intro hh; exfalso; simp at hh; try omega) _ | refine Only.trans ?_ (by assumption)))
      have hsz := t1.size
      simp at hsz
      exact bodyPost_ret (v := .tuple #[u2, .bool true]) (by simp [results, Tryz.results19, go_sem]) rfl ⟨u2, f2, by rw [Hn.out]; rfl, by rw [Hn.out, ← E1.out]; exact r2, F2.mono (by omega), K2⟩
    · have Hn := Lib.hid (optX_no (x := x) (s := PM.inv b) (fun hh => by rw [e2, hN] at hh; omega))
      have H2 := Lib.hid (show (200 : Int) < t.distances.getD i 0 by rw [hN]; omega)
      clear he hg hgi hbt e1 e2 hN hd0 hd3 h200
      go_enter Tryz.func19, Tryz.ntmps19
      go_wp2_with (first
        | (go_at_call 38; (with_reducible refine (between_yes [.int .i64 x.points, .string x.names, v2] x t _ va vb b fa fb i _ (Rp.keep h0 (by with_reducible repeat (first | exact Only.refl _ _ | assumption | refine Only.drewN ?_ _ | refine Only.drew ?_ | refine Only.alloc ?_ _ | refine Only.setCell ?_ (by intro hh; exfalso; simp at hh; try omega) _ | refine Only.trans ?_ (by assumption)))) (Rp.keep ha (by with_reducible repeat (first | exact Only.refl _ _ | assumption | refine Only.drewN ?_ _ | refine Only.drew ?_ | refine Only.alloc ?_ _ | refine Only.setCell ?_ (by intro hh; exfalso; simp at hh; try omega) _ | refine Only.trans ?_ (by assumption)))) (Rp.keep hb (by with_reducible repeat (first | exact Only.refl _ _ | assumption | refine Only.drewN ?_ _ | refine Only.drew ?_ | refine Only.alloc ?_ _ | refine Only.setCell ?_ (by intro hh; exfalso; simp at hh; try omega) _ | refine Only.trans ?_ (by assumption)))) He.out Hg.out hi E1.out).mono ?_); rintro e w1 ⟨z, rfl, hX, t1⟩)
        | (go_at_call 39; (with_reducible refine (optimalWord_far x t z i _ (hX.keep (by with_reducible repeat (first | exact Only.refl _ _ | assumption | refine Only.drewN ?_ _ | refine Only.drew ?_ | refine Only.alloc ?_ _ | refine Only.setCell ?_ (by intro hh; exfalso; simp at hh; try omega) _ | refine Only.trans ?_ (by assumption)))) He.out hi H2.out).mono ?_); rintro e w2 ⟨rfl, t2⟩)
        | fail "no arm")
      exact bodyPost_ret (v := .tuple #[.slice none 0 0, .bool false]) (by simp [results, Tryz.results19, go_sem]) rfl ⟨.slice none 0 0, [], by rw [Hn.out]; rfl, by rw [Hn.out]; exact nil_rd _, Fresh.nil _ _, (by with_reducible repeat (first | exact Only.refl _ _ | assumption | refine Only.drewN ?_ _ | refine Only.drew ?_ | refine Only.alloc ?_ _ | refine Only.setCell ?_ (by intro hh; exfalso; simp at hh; try omega) _ | refine Only.trans ?_ (by assumption)))⟩
set_option maxHeartbeats 2000000 in
theorem implStateScramble_any (cs : List Value) (x : Puzzle) (fp : List Nat) (seed : Int) (w : World) (h : Rp.rep w cs x fp) :
    Calls Tryz.prog 7 #[.agg cs.toArray, .int .i64 seed] w fun e w' => ∃ v f, e = .returned (.tuple #[v, .bool (stScr x seed).isSome]) ∧ Rd w' v ((stScr x seed).getD []) f ∧ Fresh w.heap.size w' f ∧ Only [] w w' := by
  have h0 := h
  have hgr := rndS_grp cs x fp seed w h
  obtain ⟨v2, rfl, p0, p1, h2⟩ := h
  clear p0 p1 h2
  rcases hq : (rndS x seed).2
  · have Hn := Lib.hid (stScr_no hq)
    have Hq := Lib.hid hq
    clear hq hgr
    go_enter Tryz.func7, Tryz.ntmps7
    go_wp2_with (first
      | (go_at_call 18; (with_reducible refine (implRandomState_any [.int .i64 x.points, .string x.names, v2] x _ seed _ (Rp.keep h0 (by with_reducible repeat (first | exact Only.refl _ _ | assumption | refine Only.drewN ?_ _ | refine Only.drew ?_ | refine Only.alloc ?_ _ | refine Only.setCell ?_ (by intro hh; exfalso; simp at hh; try omega) _ | refine Only.trans ?_ (by assumption))))).mono ?_); rintro e w1 ⟨u1, f1, he, r1, F1, t1⟩; rw [Hq.out] at he; subst he; obtain ⟨a1, c1, rfl, -⟩ := r1.ints)
      | fail "no arm")
    exact bodyPost_ret (v := .tuple #[.slice none 0 0, .bool false]) (by simp [results, Tryz.results7, go_sem]) rfl ⟨.slice none 0 0, [], by rw [Hn.out]; rfl, by rw [Hn.out]; exact nil_rd _, Fresh.nil _ _, (by with_reducible repeat (first | exact Only.refl _ _ | assumption | refine Only.drewN ?_ _ | refine Only.drew ?_ | refine Only.alloc ?_ _ | refine Only.setCell ?_ (by intro hh; exfalso; simp at hh; try omega) _ | refine Only.trans ?_ (by assumption)))⟩
  · obtain ⟨hv, -⟩ := rndS_valid hq
    have hf := validPz_facts hv
    have hn0 : 0 ≤ x.points := by omega
    have hn1 : x.points ≤ 1000 := by omega
    have Hn := Lib.hid (stScr_yes hq)
    have Hg := Lib.hid (hgr hq)
    have Hq := Lib.hid hq
    clear hq hgr hv hf
    go_enter Tryz.func7, Tryz.ntmps7
    go_wp2_with (first
      | (go_at_call 18; (with_reducible refine (implRandomState_any [.int .i64 x.points, .string x.names, v2] x _ seed _ (Rp.keep h0 (by with_reducible repeat (first | exact Only.refl _ _ | assumption | refine Only.drewN ?_ _ | refine Only.drew ?_ | refine Only.alloc ?_ _ | refine Only.setCell ?_ (by intro hh; exfalso; simp at hh; try omega) _ | refine Only.trans ?_ (by assumption))))).mono ?_); rintro e w1 ⟨u1, f1, he, r1, F1, t1⟩; rw [Hq.out] at he; subst he; have k1 : Only [] w w1 := (by with_reducible repeat (first | exact Only.refl _ _ | assumption | refine Only.drewN ?_ _ | refine Only.drew ?_ | refine Only.alloc ?_ _ | refine Only.setCell ?_ (by intro hh; exfalso; simp at hh; try omega) _ | refine Only.trans ?_ (by assumption))); have hB := Blk.keep (Blk.new_at (t := 29) (cs := [.int .i64 x.points, .string x.names, v2]) rfl) t1; have x0 := hB.cell 0 rfl; have x1 := hB.cell 1 rfl; have x2 := hB.cell 2 rfl)
      | fail "no arm")
    have HW := Lib.hid (fun (V : World) (u2 : Value) (f2 : List Nat) (hV : Only [] w1 V) (hu : Rd V u2 (PM.pts x.points.toNat) f2) => implWordBetween_id [.int .i64 x.points, .string x.names, v2] x _ u2 _ _ f2 f1 V (Rp.keep h0 (k1.trans hV)) hu (Rp.keep r1 hV) Hg.out)
    go_region_held3 (fun w' => Only [] w1 w' ∧ w'.cell? ⟨w.heap.size, 0, none⟩ = some (.int .i64 x.points) ∧ w'.cell? ⟨w.heap.size, 1, none⟩ = some (.string x.names) ∧ w'.cell? ⟨w.heap.size, 2, none⟩ = some (v2)) (((refine and_of ?_ (fun h__ => ⟨h__.cell (by simp) x0, h__.cell (by simp) x1, h__.cell (by simp) x2⟩)); first | exact (Only.refl _ _).drew | exact ((Only.refl _ _).drewN _).drew | exact Only.trans (And.left (by assumption)) (by assumption) | exact Only.alloc (And.left (by assumption)) _ | assumption)) (first | (go_at_call 20; (with_reducible refine (implIdentity_e x.points _ hn0 hn1).mono ?_); rintro e w2 ⟨u2, f2, rfl, r2, F2, t2⟩; have k2 : Only [] w1 w2 := Only.trans (And.left (by assumption)) t2) | (go_at_call 19; (with_reducible refine (HW.out _ u2 f2 (And.left (by assumption)) (Rp.keep r2 (by with_reducible repeat (first | exact Only.refl _ _ | assumption | refine Only.drewN ?_ _ | refine Only.drew ?_ | refine Only.alloc ?_ _ | refine Only.setCell ?_ (by intro hh; exfalso; simp at hh; try omega) _ | refine Only.trans ?_ (by assumption))))).mono ?_); rintro e w3 ⟨u3, f3, rfl, r3, F3, t3⟩; have k3 : Only [] w1 w3 := Only.trans (And.left (by assumption)) t3) | fail "no arm")
    have hsz := (k1.trans k2).size
    go_wp2
    exact bodyPost_ret (v := .tuple #[u3, .bool (optX x (PM.inv (rndS x seed).1)).isSome]) (by simp [results, Tryz.results7, go_sem]) rfl ⟨u3, f3, by rw [Hn.out], by rw [Hn.out]; exact r3, F3.mono hsz, k1.trans k3⟩
set_option maxHeartbeats 1000000 in
theorem specSameDeg_yes (vp vq : Value) (p q : List Int) (fp fq : List Nat) (w : World) (hp : Rd w vp p fp) (hq : Rd w vq q fq) (pp : permB p = true) (pq : permB q = true) (hl : p.length = q.length) :
    Calls Tryz.prog 83 #[vp, vq] w fun e w' => e = .returned (.bool true) ∧ Only [] w w' := by
  obtain ⟨A1, C1, rfl, I1⟩ := hp.ints
  obtain ⟨A2, C2, rfl, I2⟩ := hq.ints
  have Pp := Lib.hid pp
  have Pq := Lib.hid pq
  have hcmp : ((p.length : Int) == (q.length : Int)) = true := by rw [hl]; simp
  clear pp pq hl
  go_enter Tryz.func83, Tryz.ntmps83
  go_wp2_with (first
    | (go_at_call 71; (with_reducible refine (specIsPerm_rd _ p _ _ hp).mono ?_); rintro e w1 ⟨he, n1, rfl⟩; rw [Pp.out] at he; subst he)
    | (go_at_call 71; (with_reducible refine (specIsPerm_rd _ q _ _ (Rp.keep hq (Only.ofDrewN _ _ _))).mono ?_); rintro e w2 ⟨he, n2, rfl⟩; rw [Pq.out] at he; subst he)
    | fail "no arm")
  go_ret
  exact ⟨rfl, (by with_reducible repeat (first | exact Only.refl _ _ | assumption | refine Only.drewN ?_ _ | refine Only.drew ?_ | refine Only.alloc ?_ _ | refine Only.setCell ?_ (by intro hh; exfalso; simp at hh; try omega) _ | refine Only.trans ?_ (by assumption)))⟩
set_option maxHeartbeats 1000000 in
theorem specCompose2_yes (n : Nat) (vp vq : Value) (p q : List Int) (fp fq : List Nat) (w : World) (hp : Rd w vp p fp) (hq : Rd w vq q fq) (pp : PM.PN n p) (pq : PM.PN n q) (hn : 1 ≤ n ∧ n ≤ 20) :
    Calls Tryz.prog 52 #[vp, vq] w fun e w' => ∃ v fp', e = .returned (.tuple #[v, .bool true]) ∧ Rd w' v (PM.comp p q) fp' ∧ Fresh w.heap.size w' fp' ∧ Only [] w w' := by
  have Hpp := Lib.hid pp
  have Hpq := Lib.hid pq
  have Hl := Lib.hid (show p.length = q.length by rw [pp.1, pq.1])
  have Hp := Lib.hid (permB_iff.2 ⟨by rw [pp.1]; exact hn, pp.2⟩)
  have Hq := Lib.hid (permB_iff.2 ⟨by rw [pq.1]; exact hn, pq.2⟩)
  clear pp pq
  go_enter Tryz.func52, Tryz.ntmps52
  go_wp2_with (first
    | (go_at_call 83; (with_reducible refine (specSameDeg_yes vp vq p q _ _ _ hp hq Hp.out Hq.out Hl.out).mono ?_); rintro e w1 ⟨rfl, t1⟩)
    | (go_at_call 77; (with_reducible refine (specCompose_rd n vp vq p q fp fq w1 (Rp.keep hp t1) (Rp.keep hq t1) Hpp.out Hpq.out (by omega)).mono ?_); rintro e w2 ⟨v2, f2, rfl, r2, F2, t2⟩)
    | fail "no arm")
  exact bodyPost_ret (v := .tuple #[v2, .bool true]) (by simp [results, Tryz.results52, go_sem]) rfl ⟨v2, f2, rfl, r2, F2.mono t1.size, t1.trans t2⟩
theorem sIdx_yes (x : Puzzle) (t : Table) (v u : Value) (s : List Int) (f : List Nat) (i : Nat) (w : World) {B : Nat} (h : SrF B w x t v) (he : expl x = some t) (hu : Rd w u s f) (hi : i < t.patterns.length) (hs : t.patterns.getD i [] = s) :
    Calls Tryz.prog 51 #[v, u] w fun e w' => e = .returned (.int .i64 i) ∧ Only [] w w' := by
  obtain ⟨hb, -⟩ := expl_built he
  obtain ⟨A1, A2, A3, C1, C2, C3, so, ob, fps, fd, fz, rfl, hR, hS, -⟩ := h
  exact searchIndex_yes A1 A2 A3 C1 C2 C3 true t.patterns t.distances so ob fps fd fz x.points.toNat _ s f _ hR hS hu (by rw [← hs]; exact expl_len1 he hi) hb.ll i hi hs hb.bi.nd
set_option maxHeartbeats 2000000 in
theorem stateBetween_no (cs : List Value) (x : Puzzle) (fp : List Nat) (va vb : Value) (w : World) (h : Rp.rep w cs x fp) (he : expl x = none) :
    Calls Tryz.prog 29 #[.agg cs.toArray, va, vb] w fun e w' => ∃ A C, e = .returned (.tuple #[.slice A 0 C, .bool false]) ∧ Only [] w w' := by
  have h0 := h
  obtain ⟨v2, rfl, p0, p1, h2⟩ := h
  clear p0 p1 h2
  have He := Lib.hid he
  clear he
  go_enter Tryz.func29, Tryz.ntmps29
  go_wp2_with (first
    | (go_at_call 49; (with_reducible refine (searchStates_no [.int .i64 x.points, .string x.names, v2] x _ _ (Rp.keep h0 (by with_reducible repeat (first | exact Only.refl _ _ | assumption | refine Only.drewN ?_ _ | refine Only.drew ?_ | refine Only.alloc ?_ _ | refine Only.setCell ?_ (by intro hh; exfalso; simp at hh; try omega) _ | refine Only.trans ?_ (by assumption)))) He.out).mono ?_); rintro e w1 ⟨A1, n1, C1, A2, n2, C2, A3, n3, C3, wh, rfl, t1⟩; have Z := Blk.new w1 [.slice none 0 0, .slice none 0 0, .slice none 0 0, .bool false] 66; have z0 := Z.cell 0 rfl; have z1 := Z.cell 1 rfl; have z2 := Z.cell 2 rfl; have z3 := Z.cell 3 rfl; have zp0 := Z.frozen 0; have zp1 := Z.frozen 1; have zp2 := Z.frozen 2; have zp3 := Z.frozen 3)
    | fail "no arm")
  have K2 : Only [] w ((w1.alloc (.cells #[.slice A1 n1 C1, .slice A2 n2 C2, .slice A3 n3 C3, .bool wh] 66)).alloc (.cells #[] 2)) := (by with_reducible repeat (first | exact Only.refl _ _ | assumption | refine Only.drewN ?_ _ | refine Only.drew ?_ | refine Only.alloc ?_ _ | refine Only.setCell ?_ (by intro hh; exfalso; simp at hh; try omega) _ | refine Only.trans ?_ (by assumption)))
  exact bodyPost_ret (v := .tuple #[.slice (some ⟨w1.heap.size + 1, 0, none⟩) 0 0, .bool false]) (by simp [results, Tryz.results29, go_sem]) rfl ⟨_, _, rfl, K2⟩
set_option maxHeartbeats 4000000 in
theorem stateBetween_yes (cs : List Value) (x : Puzzle) (t : Table) (fp : List Nat) (va vb : Value) (b : List Int) (fa fb : List Nat) (w : World) (h : Rp.rep w cs x fp) (ha : Rd w va (PM.pts x.points.toNat) fa) (hb : Rd w vb b fb) (he : expl x = some t) (hg : PM.Grp x.points.toNat x.moves b) :
    Calls Tryz.prog 29 #[.agg cs.toArray, va, vb] w fun e w' => ∃ u f, e = .returned (.tuple #[u, .bool true]) ∧ Rd w' u (PM.inv b) f ∧ Fresh w.heap.size w' f ∧ Only [] w w' := by
  have h0 := h
  obtain ⟨v2, rfl, p0, p1, h2⟩ := h
  have X0 : Blk (w.alloc (.cells #[.int .i64 x.points, .string x.names, v2] 29)) w.heap.size [.int .i64 x.points, .string x.names, v2] := Blk.new w [.int .i64 x.points, .string x.names, v2] 29
  obtain ⟨hbt, -⟩ := expl_built he
  have hf := validPz_facts hbt.v
  have hpn : PM.PN x.points.toNat b := hg.pn (validPz_pn hbt.v)
  obtain ⟨i0, hi0, e0⟩ := expl_place he (PM.Grp.id (n := x.points.toNat) (G := x.moves))
  obtain ⟨i1, hi1, e1⟩ := expl_place he hg
  have hcm : PM.comp (PM.inv b) (PM.pts x.points.toNat) = PM.inv b := PM.comp_id hpn.inv
  have hra := (expl_reach he).1 ((expl_mem he).2 (PM.Grp.id (n := x.points.toNat) (G := x.moves)))
  have hrb := (expl_reach he).1 ((expl_mem he).2 hg)
  unfold reachB at hra hrb
  rw [Bool.and_eq_true] at hra hrb
  have Ha := Lib.hid hra.1
  have Hb := Lib.hid hrb.1
  have He := Lib.hid he
  have E0 := Lib.hid e0
  have E1 := Lib.hid e1
  have Hpn := Lib.hid hpn
  have Hcm := Lib.hid hcm
  have hn20 : 1 ≤ x.points.toNat ∧ x.points.toNat ≤ 20 := by omega
  have Hn := Lib.hid hn20
  have Hpb := Lib.hid (permB_iff.2 ⟨by rw [hpn.1]; exact hn20, hpn.2⟩)
  have hl0 : ¬ ((i0 : Int) < 0) := by omega
  have hl1 : ¬ ((i1 : Int) < 0) := by omega
  clear p0 p1 h2 he e0 e1 hcm hpn hbt hg hf hn20 hra hrb
  go_enter Tryz.func29, Tryz.ntmps29
  go_wp2_with (first
    | (go_at_call 49; (with_reducible refine (searchStates_yes [.int .i64 x.points, .string x.names, v2] x t _ _ (Rp.keep h0 (by with_reducible repeat (first | exact Only.refl _ _ | assumption | refine Only.drewN ?_ _ | refine Only.drew ?_ | refine Only.alloc ?_ _ | refine Only.setCell ?_ (by intro hh; exfalso; simp at hh; try omega) _ | refine Only.trans ?_ (by assumption)))) He.out).mono ?_); rintro e w1 ⟨A1, n1, C1, A2, n2, C2, A3, n3, C3, wh, rfl, hS, t1⟩; have Z := Blk.new w1 [.slice none 0 0, .slice none 0 0, .slice none 0 0, .bool false] 66; have z0 := Z.cell 0 rfl; have z1 := Z.cell 1 rfl; have z2 := Z.cell 2 rfl; have z3 := Z.cell 3 rfl; have zp0 := Z.frozen 0; have zp1 := Z.frozen 1; have zp2 := Z.frozen 2; have zp3 := Z.frozen 3; have X1 := (X0.keep t1).keep ((Only.refl [] _).alloc (.cells #[.slice A1 n1 C1, .slice A2 n2 C2, .slice A3 n3 C3, .bool wh] 66)); have x0 := X1.cell 0 rfl; have x1 := X1.cell 1 rfl; have x2 := X1.cell 2 rfl; have U1 := Blk.new w1 [.slice A1 n1 C1, .slice A2 n2 C2, .slice A3 n3 C3, .bool wh] 66; have hS1 := Lib.hid (SrF.keep hS ((Only.refl [] w1).alloc (.cells #[.slice A1 n1 C1, .slice A2 n2 C2, .slice A3 n3 C3, .bool wh] 66))); clear hS)
    | (go_at_call 50; (with_reducible refine (specIsState_any [.int .i64 x.points, .string x.names, v2] x _ va _ fa _ (Rp.keep h0 (by with_reducible repeat (first | exact Only.refl _ _ | assumption | refine Only.drewN ?_ _ | refine Only.drew ?_ | refine Only.alloc ?_ _ | refine Only.setCell ?_ (by intro hh; exfalso; simp at hh; try omega) _ | refine Only.trans ?_ (by assumption)))) (Rp.keep ha (by with_reducible repeat (first | exact Only.refl _ _ | assumption | refine Only.drewN ?_ _ | refine Only.drew ?_ | refine Only.alloc ?_ _ | refine Only.setCell ?_ (by intro hh; exfalso; simp at hh; try omega) _ | refine Only.trans ?_ (by assumption))))).mono ?_); rintro e w2 ⟨he, t2⟩; rw [Ha.out] at he; subst he; have X2 := X1.keep t2; have y0 := X2.cell 0 rfl; have y1 := X2.cell 1 rfl; have y2 := X2.cell 2 rfl)
    | (go_at_call 50; (with_reducible refine (specIsState_any [.int .i64 x.points, .string x.names, v2] x _ vb _ fb _ (Rp.keep h0 (by with_reducible repeat (first | exact Only.refl _ _ | assumption | refine Only.drewN ?_ _ | refine Only.drew ?_ | refine Only.alloc ?_ _ | refine Only.setCell ?_ (by intro hh; exfalso; simp at hh; try omega) _ | refine Only.trans ?_ (by assumption)))) (Rp.keep hb (by with_reducible repeat (first | exact Only.refl _ _ | assumption | refine Only.drewN ?_ _ | refine Only.drew ?_ | refine Only.alloc ?_ _ | refine Only.setCell ?_ (by intro hh; exfalso; simp at hh; try omega) _ | refine Only.trans ?_ (by assumption))))).mono ?_); rintro e w3 ⟨he, t3⟩; rw [Hb.out] at he; subst he; have U3 := (U1.keep t2).keep t3; have a0 := U3.cell 0 rfl; have a1 := U3.cell 1 rfl; have a2 := U3.cell 2 rfl; have a3 := U3.cell 3 rfl; have hS3 := Lib.hid (SrF.keep (SrF.keep hS1.out t2) t3))
    | (go_at_call 51; (with_reducible refine (sIdx_yes x t _ va _ fa i0 w3 hS3.out He.out (Rp.keep ha (by with_reducible repeat (first | exact Only.refl _ _ | assumption | refine Only.drewN ?_ _ | refine Only.drew ?_ | refine Only.alloc ?_ _ | refine Only.setCell ?_ (by intro hh; exfalso; simp at hh; try omega) _ | refine Only.trans ?_ (by assumption)))) hi0 E0.out).mono ?_); rintro e w4 ⟨rfl, t4⟩; have U4 := U3.keep t4; have b0 := U4.cell 0 rfl; have b1 := U4.cell 1 rfl; have b2 := U4.cell 2 rfl; have b3 := U4.cell 3 rfl; have hS4 := Lib.hid (SrF.keep hS3.out t4))
    | (go_at_call 51; (with_reducible refine (sIdx_yes x t _ vb _ fb i1 w4 hS4.out He.out (Rp.keep hb (by with_reducible repeat (first | exact Only.refl _ _ | assumption | refine Only.drewN ?_ _ | refine Only.drew ?_ | refine Only.alloc ?_ _ | refine Only.setCell ?_ (by intro hh; exfalso; simp at hh; try omega) _ | refine Only.trans ?_ (by assumption)))) hi1 E1.out).mono ?_); rintro e w5 ⟨rfl, t5⟩; have k5 : Only [] w w5 := (by with_reducible repeat (first | exact Only.refl _ _ | assumption | refine Only.drewN ?_ _ | refine Only.drew ?_ | refine Only.alloc ?_ _ | refine Only.setCell ?_ (by intro hh; exfalso; simp at hh; try omega) _ | refine Only.trans ?_ (by assumption))))
    | (go_at_call 53; (with_reducible refine (specInverse_rd vb b fb w5 (Rp.keep hb k5) Hpb.out).mono ?_); rintro e w6 ⟨v6, f6, rfl, r6, F6, t6⟩)
    | (go_at_call 52; (with_reducible refine (specCompose2_yes x.points.toNat v6 va _ _ f6 fa w6 r6 (Rp.keep ha (k5.trans t6)) Hpn.out.inv (PM.PN.id _) Hn.out).mono ?_); rintro e w7 ⟨v7, f7, rfl, r7, F7, t7⟩; rw [Hcm.out] at r7; obtain ⟨a7, c7, rfl, -⟩ := id r7.ints)
    | fail "no arm")
  have K7 : Only [] w w7 := (k5.trans t6).trans t7
  exact bodyPost_ret (v := .tuple #[.slice a7 _ c7, .bool true]) (by simp [results, Tryz.results29, go_sem]) rfl ⟨_, f7, rfl, r7, F7.mono (k5.trans t6).size, K7⟩
set_option maxHeartbeats 2000000 in
theorem specWordBetween_id (cs : List Value) (x : Puzzle) (fp : List Nat) (va vb : Value) (b : List Int) (fa fb : List Nat) (w : World) (h : Rp.rep w cs x fp) (ha : Rd w va (PM.pts x.points.toNat) fa) (hb : Rd w vb b fb) (hg : PM.Grp x.points.toNat x.moves b) :
    Calls Tryz.prog 15 #[.agg cs.toArray, va, vb] w fun e w' => ∃ u fp', e = .returned (.tuple #[u, .bool (optX x (PM.inv b)).isSome]) ∧ Rd w' u ((optX x (PM.inv b)).getD []) fp' ∧ Fresh w.heap.size w' fp' ∧ Only [] w w' := by
  have h0 := h
  obtain ⟨v2, rfl, p0, p1, h2⟩ := h
  clear p0 p1 h2
  have X0 : Blk (w.alloc (.cells #[.int .i64 x.points, .string x.names, v2] 29)) w.heap.size [.int .i64 x.points, .string x.names, v2] := Blk.new w [.int .i64 x.points, .string x.names, v2] 29
  rcases he : expl x with _ | t
  · have Hn := Lib.hid (optX_noexpl (s := PM.inv b) he)
    have He := Lib.hid he
    clear he
    go_enter Tryz.func15, Tryz.ntmps15
    go_wp2_with (first
      | (go_at_call 29; (with_reducible refine (stateBetween_no [.int .i64 x.points, .string x.names, v2] x _ va vb _ (Rp.keep h0 (by with_reducible repeat (first | exact Only.refl _ _ | assumption | refine Only.drewN ?_ _ | refine Only.drew ?_ | refine Only.alloc ?_ _ | refine Only.setCell ?_ (by intro hh; exfalso; simp at hh; try omega) _ | refine Only.trans ?_ (by assumption)))) He.out).mono ?_); rintro e w1 ⟨A1, C1, rfl, t1⟩; have k1 : Only [] w w1 := (by with_reducible repeat (first | exact Only.refl _ _ | assumption | refine Only.drewN ?_ _ | refine Only.drew ?_ | refine Only.alloc ?_ _ | refine Only.setCell ?_ (by intro hh; exfalso; simp at hh; try omega) _ | refine Only.trans ?_ (by assumption))))
      | fail "no arm")
    obtain ⟨hE, hF⟩ := empty_rd w1 2 (g := w1.heap.size) rfl
    exact bodyPost_ret (v := .tuple #[.slice (some ⟨w1.heap.size, 0, none⟩) 0 0, .bool false]) (by simp [results, Tryz.results15, go_sem]) rfl ⟨_, _, by rw [Hn.out]; rfl, by rw [Hn.out]; exact hE, hF.mono k1.size, k1.alloc _⟩
  · have He := Lib.hid he
    have Hg := Lib.hid hg
    clear he hg
    go_enter Tryz.func15, Tryz.ntmps15
    go_wp2_with (first
      | (go_at_call 29; (with_reducible refine (stateBetween_yes [.int .i64 x.points, .string x.names, v2] x t _ va vb b fa fb _ (Rp.keep h0 (by with_reducible repeat (first | exact Only.refl _ _ | assumption | refine Only.drewN ?_ _ | refine Only.drew ?_ | refine Only.alloc ?_ _ | refine Only.setCell ?_ (by intro hh; exfalso; simp at hh; try omega) _ | refine Only.trans ?_ (by assumption)))) (Rp.keep ha (by with_reducible repeat (first | exact Only.refl _ _ | assumption | refine Only.drewN ?_ _ | refine Only.drew ?_ | refine Only.alloc ?_ _ | refine Only.setCell ?_ (by intro hh; exfalso; simp at hh; try omega) _ | refine Only.trans ?_ (by assumption)))) (Rp.keep hb (by with_reducible repeat (first | exact Only.refl _ _ | assumption | refine Only.drewN ?_ _ | refine Only.drew ?_ | refine Only.alloc ?_ _ | refine Only.setCell ?_ (by intro hh; exfalso; simp at hh; try omega) _ | refine Only.trans ?_ (by assumption)))) He.out Hg.out).mono ?_); rintro e w1 ⟨u1, f1, rfl, r1, F1, t1⟩; have X1 := X0.keep t1; have x0 := X1.cell 0 rfl; have x1 := X1.cell 1 rfl; have x2 := X1.cell 2 rfl; obtain ⟨a1, c1, rfl, -⟩ := id r1.ints)
      | (go_at_call 30; (with_reducible refine (specOptimalWord_any [.int .i64 x.points, .string x.names, v2] x _ _ (PM.inv b) f1 _ (Rp.keep h0 (by with_reducible repeat (first | exact Only.refl _ _ | assumption | refine Only.drewN ?_ _ | refine Only.drew ?_ | refine Only.alloc ?_ _ | refine Only.setCell ?_ (by intro hh; exfalso; simp at hh; try omega) _ | refine Only.trans ?_ (by assumption)))) (Rp.keep r1 (by with_reducible repeat (first | exact Only.refl _ _ | assumption | refine Only.drewN ?_ _ | refine Only.drew ?_ | refine Only.alloc ?_ _ | refine Only.setCell ?_ (by intro hh; exfalso; simp at hh; try omega) _ | refine Only.trans ?_ (by assumption))))).mono ?_); rintro e w2 ⟨u2, f2, rfl, r2, F2, t2⟩)
      | fail "no arm")
    have K2 : Only [] w w2 := (by with_reducible repeat (first | exact Only.refl _ _ | assumption | refine Only.drewN ?_ _ | refine Only.drew ?_ | refine Only.alloc ?_ _ | refine Only.setCell ?_ (by intro hh; exfalso; simp at hh; try omega) _ | refine Only.trans ?_ (by assumption)))
    have k1 : Only [] w w1 := (by with_reducible repeat (first | exact Only.refl _ _ | assumption | refine Only.drewN ?_ _ | refine Only.drew ?_ | refine Only.alloc ?_ _ | refine Only.setCell ?_ (by intro hh; exfalso; simp at hh; try omega) _ | refine Only.trans ?_ (by assumption)))
    exact bodyPost_ret (v := .tuple #[u2, .bool (optX x (PM.inv b)).isSome]) (by simp [results, Tryz.results15, go_sem]) rfl ⟨u2, f2, rfl, r2, F2.mono k1.size, K2⟩
set_option maxHeartbeats 2000000 in
theorem specStateScramble_any (cs : List Value) (x : Puzzle) (fp : List Nat) (seed : Int) (w : World) (h : Rp.rep w cs x fp) :
    Calls Tryz.prog 5 #[.agg cs.toArray, .int .i64 seed] w fun e w' => ∃ v f, e = .returned (.tuple #[v, .bool (stScr x seed).isSome]) ∧ Rd w' v ((stScr x seed).getD []) f ∧ Fresh w.heap.size w' f ∧ Only [] w w' := by
  have h0 := h
  have hgr := rndS_grp cs x fp seed w h
  obtain ⟨v2, rfl, p0, p1, h2⟩ := h
  clear p0 p1 h2
  rcases hq : (rndS x seed).2
  · have Hn := Lib.hid (stScr_no hq)
    have Hq := Lib.hid hq
    clear hq hgr
    go_enter Tryz.func5, Tryz.ntmps5
    go_wp2_with (first
      | (go_at_call 14; (with_reducible refine (specRandomState_any [.int .i64 x.points, .string x.names, v2] x _ seed _ (Rp.keep h0 (by with_reducible repeat (first | exact Only.refl _ _ | assumption | refine Only.drewN ?_ _ | refine Only.drew ?_ | refine Only.alloc ?_ _ | refine Only.setCell ?_ (by intro hh; exfalso; simp at hh; try omega) _ | refine Only.trans ?_ (by assumption))))).mono ?_); rintro e w1 ⟨u1, f1, he, r1, F1, t1⟩; rw [Hq.out] at he; subst he; obtain ⟨a1, c1, rfl, -⟩ := r1.ints; have k1 : Only [] w w1 := (by with_reducible repeat (first | exact Only.refl _ _ | assumption | refine Only.drewN ?_ _ | refine Only.drew ?_ | refine Only.alloc ?_ _ | refine Only.setCell ?_ (by intro hh; exfalso; simp at hh; try omega) _ | refine Only.trans ?_ (by assumption))))
      | fail "no arm")
    obtain ⟨hE, hF⟩ := empty_rd w1 2 (g := w1.heap.size) rfl
    exact bodyPost_ret (v := .tuple #[.slice (some ⟨w1.heap.size, 0, none⟩) 0 0, .bool false]) (by simp [results, Tryz.results5, go_sem]) rfl ⟨_, _, by rw [Hn.out]; rfl, by rw [Hn.out]; exact hE, hF.mono k1.size, k1.alloc _⟩
  · obtain ⟨hv, -⟩ := rndS_valid hq
    have hf := validPz_facts hv
    have hn0 : 0 ≤ x.points := by omega
    have hn1 : x.points ≤ 1000 := by omega
    have Hn := Lib.hid (stScr_yes hq)
    have Hg := Lib.hid (hgr hq)
    have Hq := Lib.hid hq
    clear hq hgr hv hf
    go_enter Tryz.func5, Tryz.ntmps5
    go_wp2_with (first
      | (go_at_call 14; (with_reducible refine (specRandomState_any [.int .i64 x.points, .string x.names, v2] x _ seed _ (Rp.keep h0 (by with_reducible repeat (first | exact Only.refl _ _ | assumption | refine Only.drewN ?_ _ | refine Only.drew ?_ | refine Only.alloc ?_ _ | refine Only.setCell ?_ (by intro hh; exfalso; simp at hh; try omega) _ | refine Only.trans ?_ (by assumption))))).mono ?_); rintro e w1 ⟨u1, f1, he, r1, F1, t1⟩; rw [Hq.out] at he; subst he; have k1 : Only [] w w1 := (by with_reducible repeat (first | exact Only.refl _ _ | assumption | refine Only.drewN ?_ _ | refine Only.drew ?_ | refine Only.alloc ?_ _ | refine Only.setCell ?_ (by intro hh; exfalso; simp at hh; try omega) _ | refine Only.trans ?_ (by assumption))); have hB := Blk.keep (Blk.new_at (t := 29) (cs := [.int .i64 x.points, .string x.names, v2]) rfl) t1; have x0 := hB.cell 0 rfl; have x1 := hB.cell 1 rfl; have x2 := hB.cell 2 rfl; obtain ⟨a1, c1, rfl, -⟩ := id r1.ints)
      | fail "no arm")
    have HW := Lib.hid (fun (V : World) (u2 : Value) (f2 : List Nat) (hV : Only [] w1 V) (hu : Rd V u2 (PM.pts x.points.toNat) f2) => specWordBetween_id [.int .i64 x.points, .string x.names, v2] x _ u2 _ _ f2 f1 V (Rp.keep h0 (k1.trans hV)) hu (Rp.keep r1 hV) Hg.out)
    go_region_held3 (fun w' => Only [] w1 w' ∧ w'.cell? ⟨w.heap.size, 0, none⟩ = some (.int .i64 x.points) ∧ w'.cell? ⟨w.heap.size, 1, none⟩ = some (.string x.names) ∧ w'.cell? ⟨w.heap.size, 2, none⟩ = some (v2)) (((refine and_of ?_ (fun h__ => ⟨h__.cell (by simp) x0, h__.cell (by simp) x1, h__.cell (by simp) x2⟩)); first | exact (Only.refl _ _).drew | exact ((Only.refl _ _).drewN _).drew | exact Only.trans (And.left (by assumption)) (by assumption) | exact Only.alloc (And.left (by assumption)) _ | assumption)) (first | (go_at_call 16; (with_reducible refine (specIdentity_i x.points _ hn0 hn1).mono ?_); rintro e w2 ⟨u2, f2, rfl, r2, F2, t2⟩; have k2 : Only [] w1 w2 := Only.trans (And.left (by assumption)) t2) | (go_at_call 15; (with_reducible refine (HW.out _ u2 f2 (And.left (by assumption)) (Rp.keep r2 (by with_reducible repeat (first | exact Only.refl _ _ | assumption | refine Only.drewN ?_ _ | refine Only.drew ?_ | refine Only.alloc ?_ _ | refine Only.setCell ?_ (by intro hh; exfalso; simp at hh; try omega) _ | refine Only.trans ?_ (by assumption))))).mono ?_); rintro e w3 ⟨u3, f3, rfl, r3, F3, t3⟩; have k3 : Only [] w1 w3 := Only.trans (And.left (by assumption)) t3) | fail "no arm")
    have hsz := (k1.trans k2).size
    go_wp2
    exact bodyPost_ret (v := .tuple #[u3, .bool (optX x (PM.inv (rndS x seed).1)).isSome]) (by simp [results, Tryz.results5, go_sem]) rfl ⟨u3, f3, by rw [Hn.out], by rw [Hn.out]; exact r3, F3.mono hsz, k1.trans k3⟩
end Go.Proofs.YtccdicgnolkepaaGreat
