/- The program's walk down a chain: values, take, from (laws 33, 47). The program's walk down a chain: sorted, from; its generator (laws 33, 47). The program's RandomMember (laws 35, 47). The program's memberAt: the member of a rank (laws 33, 34, ..). RandomState, of the reference and of the program (law 33). What the laws on ranks and random members draw (laws 34, 35). The program's walk down a chain: how many values are less (laws 34, 35). The reference's Rank of the member of a rank (laws 34, 35, 53). The program's countBelow and Rank of the member of a rank (laws 34, 35). The program's Rank, IsMember, MemberAt, FirstNonIdentity; random members of no group (laws 34, 35). -/
import Derived.Test.YtnagknkllkdkaaaRowRanksG3
import Derived.Test.YtnagknkllkdkaaaRowRanksG7
import Derived.Test.YtnagknkllkdkaaaRowRanksG8
import Derived.Test.YtnagknkllkdkaaaRowRanksG11
import Derived.Test.YtnagknkllkdkaaaRowRanksG9
import Derived.Deep.RegionLaw
import Derived.Test.YtnagknkllkdkaaaRowRanksG10
import Derived.Deep.QuietTactic
import Derived.Deep.RegionHeld3
namespace Go.Proofs.Ytnagknkllkdkaaa
open Go.RowKit
set_option maxRecDepth 10000

/-- a value's point -/
def gV (m ys : List Int) (x : Int) : Option Int := if x ∈ PM.choO m ys then some (PM.at_ (PM.inv m) x) else none
theorem gV_nil (m : List Int) (x : Int) : gV m [] x = none := rfl
theorem gV_snoc {n : Nat} {m : List Int} (hm : PM.PN n m) {ys : List Int} {y : Int} (h0 : 0 ≤ y) (h1 : y < n) (x : Int) : (if x = PM.at_ m y then some y else gV m ys x) = gV m (ys ++ [y]) x := by
  unfold gV
  rw [PM.choO_snoc]
  by_cases hx : x = PM.at_ m y
  · rw [if_pos hx, if_pos (PM.mem_insU.2 (Or.inl hx)), hx, PM.at_inv hm h0 h1]
  · rw [if_neg hx]
    by_cases hm2 : x ∈ PM.choO m ys
    · rw [if_pos hm2, if_pos (PM.mem_insU.2 (Or.inr hm2))]
    · rw [if_neg hm2, if_neg (fun h => (PM.mem_insU.1 h).elim hx hm2)]
theorem Mpv.mono {w : World} {M k k' : Nat} {g : Int → Option Int} (h : Mpv w M k g) (hk : k ≤ k') : Mpv w M k' g := by
  obtain ⟨D, h1, h2⟩ := h
  exact ⟨D, h1.mono hk, h2⟩
set_option maxHeartbeats 2000000 in
theorem values_any {e : TypeId} {B : Nat} {L : Lay} {gv : Nat → Value} {n : Nat} {G : PM.Gens} {T : PM.Rows} {M F : List Nat} (w : World) (hC : Ch e B w L gv n G T M F) (hT : L.oT = 2) (b i : Nat) (hi : i < n) (v : Value) (m : List Int) (fm : List Nat)
    (hb : Blk w b [.pointer (some ⟨L.g, 0, none⟩), .int .i64 i, v]) (hv : Rd w v m fm) (hm : PM.PN n m) :
    Calls Try.prog 94 #[.pointer (some ⟨b, 0, none⟩)] w fun e w' => ∃ K, e = .returned (.map (some K)) ∧ w.heap.size ≤ K ∧ Mpv w' K 1000 (gV m (orb n T i)) ∧ Only [] w w' := by
  obtain ⟨A, C, rfl, IM⟩ := hv.ints
  have hn20 := hC.le
  have hml := hm.1
  have ct := hC.ct
  rw [hT] at ct
  have cr := hC.row i hi
  have kA : Only [] w (w.alloc (.map #[] 0)) := (Only.refl _ _).alloc _
  have z0 := kA.cell (by simp) (hb.cell 0 rfl)
  have z1 := kA.cell (by simp) (hb.cell 1 rfl)
  have zt := kA.cell (by simp) ct
  have zr := kA.cell (by simp) cr
  have y2 := hb.cell 2 rfl
  have hmm := @run_makeMap Try.prog
  have M0 := (Mpv.made w rfl).congr (fun x => (gV_nil m x).symm)
  obtain ⟨ys, hys⟩ : ∃ ys, ys = orb n T i := ⟨_, rfl⟩
  have hyr : ∀ y ∈ ys, 0 ≤ y ∧ y < n := fun y hy => by rw [hys] at hy; exact (mem_orb.1 hy).1
  have hyl : ys.length ≤ 20 := by
    rw [hys]
    have h1 : (orb n T i).length ≤ (PM.pts n).length := PM.nodup_sub_len (orb_nodup n T i) fun y hy => PM.mem_pts.2 (mem_orb.1 hy).1
    rw [PM.pts_len] at h1
    omega
  rw [← hys]
  have Hys := Lib.hid hys
  have HC := Lib.hid hC
  have Hm := Lib.hid hm
  have HIM := Lib.hid IM
  have HM0 := Lib.hid M0
  have Hyr := Lib.hid hyr
  have Hml := Lib.hid hml
  clear hC hm M0 hT hys hyr IM hml ct cr
  go_enter Try.func94, Try.ntmps94
  go_wp2_with fail
  go_region_held3 (fun w' => Only [] (w.alloc (.map #[] 0)) w' ∧ w'.cell? ⟨b, 0, none⟩ = some (.pointer (some ⟨L.g, 0, none⟩)) ∧ w'.cell? ⟨b, 1, none⟩ = some (.int .i64 i) ∧ w'.cell? ⟨L.g, 2, none⟩ = some (.slice (some ⟨L.bt, 0, none⟩) n L.cT) ∧ w'.cell? ⟨L.bt, i, none⟩ = some (.slice (some ⟨L.rb i, 0, none⟩) n n)) (((refine and_of ?_ (fun h__ => ⟨h__.cell (by simp) z0, h__.cell (by simp) z1, h__.cell (by simp) zt, h__.cell (by simp) zr⟩)); first | exact (Only.refl _ _).drew | exact ((Only.refl _ _).drewN _).drew | exact Only.trans (And.left (by assumption)) (by assumption) | exact Only.alloc (And.left (by assumption)) _ | assumption)) (first | (go_at_call 76; (with_reducible refine (orbitOf_any _ (HC.out.keep (kA.trans (And.left (by assumption)))) i hi).mono ?_); rintro e w1 ⟨vo, fo, rfl, A1, F1, t1⟩; rw [← Hys.out] at A1; have kX : Only [] (w.alloc (.map #[] 0)) w1 := Only.trans (And.left (by assumption)) t1; have kB := Only.trans kA kX; have r1 := A1.rd (by decide); have F2 := A1.fresh F1; obtain ⟨ao, co, rfl, IO⟩ := r1.ints) | fail "no arm")
  have hge : ∀ b ∈ ((Value.slice ao ys.length co).ownBlock.toList ++ fo.flatten), w.heap.size < b := fun b hb => by
    have := F2.ge b hb
    simp at this
    omega
  have HIO := Lib.hid IO
  have Hge := Lib.hid hge
  clear A1 F1 F2 r1 IO hge z0 z1 zt zr t1
  go_wp2_with fail
  go_loopw [22] (fun i wr => ∃ j : Nat, j ≤ ys.length ∧ i = .int .i64 j ∧ Mpv wr w.heap.size j (gV m (ys.take j)) ∧ Only [w.heap.size] w1 wr)
    (fun i _ => ys.length - (intOf i).toNat)
  case atStart => exact ⟨0, Nat.zero_le _, rfl, HM0.out.keep kX, Only.refl _ _⟩
  case round =>
    obtain ⟨W2, hnew⟩ : ∃ W, W = wr := ⟨_, rfl⟩
    subst hnew
    obtain ⟨j, hj, rfl, hM, hO⟩ := hrel
    have KO : Only [] w W2 := kB.then_ hO (fun b hb hl => by simp at hb; omega)
    by_cases hlt : j < ys.length
    · obtain ⟨y, hy⟩ : ∃ y, y = ys[j] := ⟨_, rfl⟩
      have hyr := Hyr.out y (by rw [hy]; exact List.getElem_mem hlt)
      obtain ⟨b2, o2, rfl, -, c2⟩ := (HIO.out.only hO (fun b hb hm => by have := Hge.out b hb; simp at hm; omega)).at_ j hlt
      rw [← hy] at c2
      obtain ⟨b3, o3, rfl, -, c3⟩ := (HIM.out.keep KO).at_pm (x := y) hyr.1 (by rw [Hml.out]; exact hyr.2)
      have y2' := KO.cell (by simp) y2
      have hym : y < (m.length : Int) := by rw [Hml.out]; exact hyr.2
      have hy0 := hyr.1
      have hmr := Hm.out.rng hyr.1 hyr.2
      obtain ⟨w3, hrun3, hM3, hO3⟩ := hM.run_put (s := PM.at_ m y) (by unfold I64; omega) (n := y) (by unfold I64; omega) (by unfold maxLen; omega)
      have htk : ys.take (j + 1) = ys.take j ++ [y] := by rw [take_succ_get ys j hlt, hy]
      have Htk := Lib.hid htk
      clear htk hy
      go_wp2
      go_roundw
      case rel => exact ⟨j + 1, by omega, by go_num, hM3.congr (fun x => by rw [Htk.out]; exact gV_snoc Hm.out hyr.1 hyr.2 x), hO.trans hO3⟩
      case measure => simp [intOf]; omega
    · have hfin : Mpv W2 w.heap.size 1000 (gV m ys) := by
        rw [List.take_of_length_le (by omega)] at hM
        exact hM.mono (by omega)
      go_wp2
      go_ret
      exact ⟨w.heap.size, rfl, Nat.le_refl _, hfin, KO⟩
theorem gV_yes {n : Nat} {T : PM.Rows} {i : Nat} {m : List Int} {vv : Int} (h : vv ∈ PM.cho n T i m) : gV m (orb n T i) vv = some (PM.at_ (PM.inv m) vv) := if_pos h
theorem gV_no {n : Nat} {T : PM.Rows} {i : Nat} {m : List Int} {vv : Int} (h : vv ∉ PM.cho n T i m) : gV m (orb n T i) vv = none := if_neg h
/-- the walk has taken a value: q is chosen, the level is still i -/
def TK (w : World) (L : Lay) (b i : Nat) (q : List Int) (wx : World) : Prop :=
  ∃ a c f', Blk wx b [.pointer (some ⟨L.g, 0, none⟩), .int .i64 i, .slice a q.length c] ∧ Rd wx (.slice a q.length c) q f' ∧ Fresh w.heap.size wx f' ∧ Only [b] w wx
theorem TK.of {w w1 w5 w6 : World} {L : Lay} {b i : Nat} {q : List Int} {a : Option Addr} {c : Nat} {f' : List Nat} {v : Value} (t1 : Only [] w w1) (k5 : Only [] w1 w5) (Y5 : Blk w5 b [.pointer (some ⟨L.g, 0, none⟩), .int .i64 i, v]) (hb : b < w.heap.size)
    (r5 : Rd w5 (.slice a q.length c) q f') (F5 : Fresh w1.heap.size w5 f') (h6 : w6 = w5.setCell ⟨b, 2, none⟩ (.slice a q.length c)) : TK w L b i q w6 := by
  subst h6
  have hs : Only [b] w5 (w5.setCell ⟨b, 2, none⟩ (.slice a q.length c)) := (Only.refl _ _).setCell (by simp) _
  have hsz := t1.size
  have hd : ∀ z ∈ f', z ∉ [b] := fun z hz hm => by have := F5.ge z hz; simp at hm; omega
  have hB := Y5.set 2 (.slice a q.length c)
  simp only [List.set] at hB
  exact ⟨a, c, f', hB, Rp.only r5 hs hd, (F5.mono hsz).only hs hd, ((t1.trans k5).weaken _).trans hs⟩
set_option maxHeartbeats 4000000 in
theorem take_yes {e : TypeId} {B : Nat} {L : Lay} {gv : Nat → Value} {n : Nat} {G : PM.Gens} {T : PM.Rows} {M F : List Nat} (w : World) (hC : Ch e B w L gv n G T M F) (hw : PM.WF n T) (hT : L.oT = 2) (b i : Nat) (hi : i < n) (v : Value) (m : List Int) (fm : List Nat)
    (hb : Blk w b [.pointer (some ⟨L.g, 0, none⟩), .int .i64 i, v]) (hv : Rd w v m fm) (hm : PM.PN n m) (vv : Int) (hvv : vv ∈ PM.cho n T i m) :
    Calls Try.prog 66 #[.pointer (some ⟨b, 0, none⟩), .int .i64 vv] w fun e w' => e = .returned (.bool true) ∧ (∃ v' f', Blk w' b [.pointer (some ⟨L.g, 0, none⟩), .int .i64 ((i : Int) + 1), v'] ∧ Rd w' v' (PM.putV T i m vv) f' ∧ Fresh w.heap.size w' f') ∧ Only [b] w w' := by
  have hn20 := hC.le
  obtain ⟨hv0, hv1, hp0, hp1, hp2, hp3⟩ := PM.cho_pre hm hvv
  have hI : I64 vv := by unfold I64; omega
  have HcV := Lib.hid (values_any w hC hT b i hi v m fm hb hv hm)
  have Hyes := Lib.hid (gV_yes hvv)
  obtain ⟨A, C, rfl, IM⟩ := hv.ints
  obtain ⟨y, hy⟩ : ∃ y, y = PM.at_ (PM.inv m) vv := ⟨_, rfl⟩
  rw [← hy] at Hyes hp0 hp1 hp2 hp3
  have hput : PM.putV T i m vv = PM.comp (PM.tr T i y) m := by unfold PM.putV; rw [← hy]
  have ct := hC.ct
  rw [hT] at ct
  have cr := hC.row i hi
  obtain ⟨bt, ot, capt, ft, crt, hrt, -⟩ := hC.at_some hi hp0 hp1 hp2
  have htp := hw.pn i y hi hp2
  have hlt := Lib.hid htp.1
  have HC := Lib.hid hC
  have Hm := Lib.hid hm
  have Hp := Lib.hid hput
  have Htp := Lib.hid htp
  have HI := Lib.hid hI
  have y0 := hb.cell 0 rfl
  have y1 := hb.cell 1 rfl
  have y2 := hb.cell 2 rfl
  have hblt := hb.lt
  clear hC hm hvv hI hy hput hp2 hp3 htp hv0 hv1 IM
  go_enter Try.func66, Try.ntmps66
  go_upto_region 4 with (first
    | (go_at_call 94; (with_reducible refine (HcV.out).mono ?_); rintro en w1 ⟨K, rfl, hK, hM, t1⟩; have hrun := hM.run_yes HI.out Hyes.out)
    | fail "no arm")
  have x0 := t1.cell (by simp) y0
  have x1 := t1.cell (by simp) y1
  have x2 := t1.cell (by simp) y2
  have xt := t1.cell (by simp) ct
  have xr := t1.cell (by simp) cr
  have xy := t1.cell (by simp) crt
  clear y0 y1 y2 ct cr crt hrun hM
  have kd : Only [] w1 w1.drew := (Only.refl _ _).drew
  have d0 := kd.cell (by simp) x0
  have d1 := kd.cell (by simp) x1
  have d2 := kd.cell (by simp) x2
  have dt := kd.cell (by simp) xt
  have dr := kd.cell (by simp) xr
  have dy := kd.cell (by simp) xy
  have HcC := Lib.hid (fun (W : World) (hW : Only [] w1 W) => implCompose_rd n _ _ (PM.tr T i y) m _ _ W (Rp.keep hrt (Only.trans t1 hW)) (Rp.keep hv (Only.trans t1 hW)) Htp.out Hm.out (by omega))
  have Hb := Lib.hid (fun (W : World) (hW : Only [] w1 W) => hb.keep (t1.trans hW))
  clear kd
  go_cut [] (fun wx => TK w L b i (PM.comp (PM.tr T i y) m) wx)
  case first =>
   go_region_law (first
    | (go_simp; go_at_call 91; (with_reducible refine (HcC.out _ (by with_reducible repeat (first | exact Only.refl _ _ | refine Only.drew ?_))).mono ?_); rintro e w5 ⟨v5, f5, rfl, r5, F5, t5⟩; have k5 : Only [] w1 w5 := Only.trans (by with_reducible repeat (first | exact Only.refl _ _ | refine Only.drew ?_)) t5; have Y5 := Hb.out _ k5; have x5 := Y5.cell 2 rfl; have q5 := Y5.frozen 2; have r50 := r5; obtain ⟨a5, c5, rfl, _⟩ := r5.ints)
    | fail "no arm")
   all_goals go_wp2_with fail
   all_goals go_meet
   all_goals exact TK.of t1 k5 Y5 hblt r50 (F5.mono (by simp)) rfl
  case rest =>
    obtain ⟨a6, c6, f6, B6, r6, F6, O6⟩ := hcut
    obtain ⟨W2, hnew⟩ : ∃ W, W = wc := ⟨_, rfl⟩
    subst hnew
    have z1 := B6.cell 1 rfl
    have p1 := B6.frozen 1
    have hs : Only [b] W2 (W2.setCell ⟨b, 1, none⟩ (.int .i64 ((i : Int) + 1))) := (Only.refl _ _).setCell (by simp) _
    have hd : ∀ z ∈ f6, z ∉ [b] := fun z hz hm => by have := F6.ge z hz; simp at hm; omega
    have hB := B6.set 1 (.int .i64 ((i : Int) + 1))
    simp only [List.set] at hB
    have hfin := (⟨⟨_, _, hB, Rp.only r6 hs hd, F6.only hs hd⟩, O6.trans hs⟩ : (∃ v' f', Blk (W2.setCell ⟨b, 1, none⟩ (.int .i64 ((i : Int) + 1))) b [.pointer (some ⟨L.g, 0, none⟩), .int .i64 ((i : Int) + 1), v'] ∧ Rd (W2.setCell ⟨b, 1, none⟩ (.int .i64 ((i : Int) + 1))) v' (PM.comp (PM.tr T i y) m) f' ∧ Fresh w.heap.size (W2.setCell ⟨b, 1, none⟩ (.int .i64 ((i : Int) + 1))) f') ∧ Only [b] w (W2.setCell ⟨b, 1, none⟩ (.int .i64 ((i : Int) + 1))))
    have hwi : IntKind.i64.wrap ((i : Int) + 1) = (i : Int) + 1 := by rw [IntKind.wrap_i64]; omega
    have Hfin := Lib.hid hfin
    clear hfin hB hs hd r6 F6 O6
    go_wp2
    go_ret
    rw [Hp.out]
    exact ⟨rfl, Hfin.out⟩
end Go.Proofs.Ytnagknkllkdkaaa

namespace Go.Proofs.Ytnagknkllkdkaaa
open Go.RowKit
set_option maxRecDepth 10000

theorem ranges_frame {P : Program} {k : TypeId} {R : Value → Option (DataW Unit × List MemPlace)} {b r n cnt : Nat} {D : DataW Unit} {left : Lit → Bool} {w w' : World} (h : w.ranges P k R b r n D left cnt) (hb : w'.heap[b]? = w.heap[b]?) (hr : w'.heap[r]? = w.heap[r]?) : w'.ranges P k R b r n D left cnt := by
  obtain ⟨es, clock, since, seen, c0, h1, F, hs, hD, h2, rest⟩ := h
  exact ⟨es, clock, since, seen, c0, hb.trans h1, F, hs, hD, hr.trans h2, rest⟩
theorem AccI.low {B B' : Nat} {e : TypeId} {w : World} {v : Value} {l : List Int} (h : AccI B e w v l) (hB : B' ≤ B) : AccI B' e w v l := by
  obtain ⟨h1, h2⟩ := h.row
  refine AccI.ofRow ⟨h1.1, ?_⟩ h2
  rcases h1.2 with h3 | ⟨g, cap, cur, h3, h4, h5⟩
  · exact .inl h3
  · exact .inr ⟨g, cap, cur, h3, Nat.le_trans hB h4, h5⟩
theorem same_int (a b : Int) : (Lit.int .i64 a).sameKey (.int .i64 b) = decide (a = b) := by
  show decide (IntKind.i64 = IntKind.i64 ∧ a = b) = _
  by_cases h : a = b <;> simp [h]
/-- the keys met so far: l; those to come: left -/
structure KL (C : List Int) (left : Lit → Bool) (l : List Int) : Prop where
  nd : l.Nodup
  iff : ∀ x, I64 x → (x ∈ l ↔ x ∈ C ∧ left (.int .i64 x) = false)
  big : ∀ x ∈ l, I64 x
  dom : ∀ x, I64 x → left (.int .i64 x) = true → x ∈ C
theorem KL.step {C : List Int} {left : Lit → Bool} {l : List Int} (h : KL C left l) {x : Int} (hx : I64 x) (hl : left (.int .i64 x) = true) : KL C (fun z => left z && !z.sameKey (.int .i64 x)) (l ++ [x]) := by
  have hn : x ∉ l := fun hm => by have := ((h.iff x hx).1 hm).2; rw [hl] at this; cases this
  refine ⟨?_, fun y hy => ?_, fun y hy => ?_, fun y hy hl2 => ?_⟩
  · rw [List.nodup_append]
    exact ⟨h.nd, by simp, fun a ha b hb => by simp at hb; subst hb; intro e; subst e; exact hn ha⟩
  · rw [List.mem_append, h.iff y hy]
    simp only [List.mem_singleton, same_int]
    by_cases he : y = x
    · subst he; simp [h.dom _ hx hl]
    · simp [he]
  · rcases List.mem_append.1 hy with hy | hy
    · exact h.big y hy
    · simp at hy; subst hy; exact hx
  · simp only [same_int, Bool.and_eq_true] at hl2
    exact h.dom y hy hl2.1
theorem KL.end_ {C : List Int} {left : Lit → Bool} {l : List Int} (h : KL C left l) (hl : ∀ z, left z = false) (hC : PM.Asc C) (hCb : ∀ x ∈ C, I64 x) : (l.mergeSort fun x y => decide (x ≤ y)) = C := by
  refine PM.asc_ext (sorted_asc h.nd) hC fun x => ?_
  rw [sorted_mem]
  constructor
  · intro hx; exact ((h.iff x (h.big x hx)).1 hx).1
  · intro hx; exact (h.iff x (hCb x hx)).2 ⟨hx, hl _⟩
set_option maxHeartbeats 4000000 in
theorem walkSorted_any {e : TypeId} {B : Nat} {L : Lay} {gv : Nat → Value} {n : Nat} {G : PM.Gens} {T : PM.Rows} {M F : List Nat} (w : World) (hC : Ch e B w L gv n G T M F) (hw : PM.WF n T) (hT : L.oT = 2) (b i : Nat) (hi : i < n) (v : Value) (m : List Int) (fm : List Nat)
    (hb : Blk w b [.pointer (some ⟨L.g, 0, none⟩), .int .i64 i, v]) (hv : Rd w v m fm) (hm : PM.PN n m) :
    Calls Try.prog 65 #[.pointer (some ⟨b, 0, none⟩)] w fun e w' => ∃ v', e = .returned v' ∧ AccI w.heap.size 2 w' v' (PM.cho n T i m) ∧ Only [] w w' := by
  obtain ⟨i0, hii, hz0, hz1, hz2⟩ := info_parts Try.info2
  have HcV := Lib.hid (values_any w hC hT b i hi v m fm hb hv hm)
  obtain ⟨C, hCd⟩ : ∃ C, C = PM.cho n T i m := ⟨_, rfl⟩
  have hn20 := hC.le
  have hAs : PM.Asc C := by rw [hCd]; exact PM.choO_asc _ _
  have hCb : ∀ x ∈ C, I64 x := fun x hx => by rw [hCd] at hx; have := PM.cho_pre hm hx; unfold I64; omega
  have hCl : C.length ≤ 1000 := by rw [hCd, PM.cho_len hm]; have := PM.cntR_le n T i; omega
  have hCne : C ≠ [] := fun hc => by
    have h1 := PM.cho_len (T := T) (i := i) hm
    rw [← hCd, hc] at h1
    have h2 := PM.cntR_pos hw hi
    simp at h1; omega
  have hgC : ∀ x, (gV m (orb n T i) x).isSome = decide (x ∈ C) := fun x => by
    rw [hCd]
    by_cases hx : x ∈ PM.cho n T i m
    · rw [gV_yes hx]; simp [hx]
    · rw [gV_no hx]; simp [hx]
  rw [← hCd]
  have HAs := Lib.hid hAs
  have HCb := Lib.hid hCb
  have HCne := Lib.hid hCne
  have HgC := Lib.hid hgC
  clear hC hm hb hv hw hAs hCb hCne hgC hCd
  go_enter Try.func65, Try.ntmps65
  go_wp2_with (first
    | (go_at_call 94; (with_reducible refine (HcV.out).mono ?_); rintro en w1 ⟨K, rfl, hK, hM, t1⟩; obtain ⟨D, hown, hg⟩ := hM)
    | (at_range; refine wpList_range_own _ rfl _ 109 rfl 2 2 Try.lawI64 Try.underlying109 _ K 1000 D rfl hown ?_; intro w0 hrg0 hg0 hs0)
    | fail "no arm")
  go_frame
  have hKl := hown.lt
  have k01 : Only [] w1 w0 := (Only.refl _ _).grown hg0 (by intro j hj; cases hj)
  have kw0 : Only [] w w0 := t1.trans k01
  have hl0 : KL C (Go.Maps.has D) [] := ⟨List.nodup_nil, fun x hx => by
      rw [(hg x hx).1, HgC.out]
      by_cases hm : x ∈ C <;> simp [hm], by simp, fun x hx hl => by rw [(hg x hx).1, HgC.out] at hl; simpa using hl⟩
  clear hg hg0 hown t1 k01
  go_loopw [3] (fun o wr => ∃ (left : Lit → Bool) (cnt : Nat) (l : List Int), wr.ranges Try.prog 2 (plainElem Try.prog 2) K w1.heap.size 1000 D left cnt ∧ AccI (w1.heap.size + 1) 2 wr o l ∧ KL C left l ∧ Only [] w wr ∧ w1.heap.size + 1 ≤ wr.heap.size)
    (fun _ wr => wr.rangeLeft K w1.heap.size)
  case atStart => exact ⟨_, _, [], hrg0, AccI.nil _ _ _, hl0, kw0, by omega⟩
  case round =>
    obtain ⟨W2, hnew⟩ : ∃ W, W = wr := ⟨_, rfl⟩
    subst hnew
    obtain ⟨left, cnt, l, hrg, hA, hKL, hO, hsz⟩ := hrel
    have hll : l.length ≤ 1000 := Nat.le_trans (PM.nodup_sub_len hKL.nd fun x hx => ((hKL.iff x (hKL.big x hx)).1 hx).1) hCl
    have hlow : w.heap.size ≤ w1.heap.size + 1 := by have := kw0.size; omega
    go_wp2_with (first
      | (at_next; refine wpList_next_ranges_ii _ rfl _ rfl 2 2 .i64 .i64 Try.lawI64 Try.underlying2 Try.underlying2 K w1.heap.size 1000 _ _ _ rfl hrg ?_ ?_)
      | fail "no arm")
    · intro _ hl0
      have hfin := hKL.end_ hl0 HAs.out HCb.out
      have hlne : l ≠ [] := fun hc => HCne.out (by rw [← hfin, hc]; simp)
      have Hfin := Lib.hid hfin
      obtain ⟨a, c, ho⟩ := hA.form
      subst ho
      clear hfin hl0
      go_wp2_with (first
        | (go_at_call 95; (with_reducible refine (sort_accI W2 _ l hA hlne hll).mono ?_); rintro en w3 ⟨rfl, hA3, hO3⟩; rw [Hfin.out] at hA3)
        | fail "no arm")
      go_ret
      exact ⟨_, rfl, hA3.low hlow, hO.then_ hO3 (fun z hz hl => by have := (hA.ownlt z (by simpa using hz)).1; omega)⟩
    · intro x c w2 cnt1 hwx hwc hlx hat hrg1 hlt hg1 hs1 hen
      have hxI : I64 x := by have h9 := hwx; simp [Lit.wf, IntKind.min, IntKind.max, IntKind.signed, IntKind.bits] at h9; unfold I64; omega
      have k2 : Only [w1.heap.size] W2 w2 := (Only.refl _ _).grown hg1 (by intro j hj _; injection hj with hj; subst hj; simp)
      have hA2 := hA.only k2 (fun g hg hm => by have := (hA.ownlt g hg).1; simp at hm; omega)
      have hO2 : Only [] w w2 := hO.then_ k2 (fun z hz hl => by simp at hz; have := kw0.size; omega)
      have hK2 := hKL.step hxI hlx
      have HXI := Lib.hid hxI
      have hsB : w1.heap.size + 1 ≤ w2.heap.size := by omega
      have Hs1 := Lib.hid hs1
      clear hs1
      clear hKL hxI hat hwx hwc hlx
      go_wp2_with (first
        | (at_builtin; refine wpList_pushI rfl _ _ 26 rfl (w1.heap.size + 1) 2 i0 _ Try.underlying26 hii hz0 hz1 hz2 rfl w2 u3 l rfl hA2 ((Only.refl _ _).alloc _) hsB w2.heap.size 1 x rfl (lit1 w2 _ _ rfl) HXI.out (by omega) ?_; intro v3 w3 hA3 hO3 hP3 hN3)
        | fail "no arm")
      have hsz2 : w2.heap.size = W2.heap.size := Hs1.out
      have hne : ∀ g, g ≤ w1.heap.size → w3.heap[g]? = w2.heap[g]? := fun g hg => by
        have h1 : g < w2.heap.size := by omega
        have h2 := hO3.block g (by simp; omega) (fun hm => by have := (hA2.ownlt g (by simpa using hm)).1; omega)
        have h3 := ((Only.refl [] w2).alloc (.cells #[.int .i64 x] 2)).block g h1 (by simp)
        exact h2.trans h3
      have hrg3 := ranges_frame hrg1 (hne K (by omega)) (hne _ (Nat.le_refl _))
      have hsz3 := hO3.size
      simp at hsz3
      go_roundw
      case rel => exact ⟨_, cnt1, l ++ [x], hrg3, hA3, hK2, hP3 w (hO2.alloc _) hlow, by omega⟩
      case measure => rw [hrg3.left_eq, hrg.left_eq]; exact hlt
end Go.Proofs.Ytnagknkllkdkaaa

namespace Go.Proofs.Ytnagknkllkdkaaa
open Go.RowKit
set_option maxRecDepth 10000

theorem from_any (g : Nat) (v : Value) (m : List Int) (f : List Nat) (w : World) (hv : Rd w v m f) :
    Calls Try.prog 63 #[.pointer (some ⟨g, 0, none⟩), v] w fun e w' => e = .returned (.pointer (some ⟨w.heap.size, 0, none⟩)) ∧ Blk w' w.heap.size [.pointer (some ⟨g, 0, none⟩), .int .i64 (0 : Nat), v] ∧ Only [] w w' ∧ w'.heap.size = w.heap.size + 1 := by
  obtain ⟨A, C, rfl, -⟩ := hv.ints
  go_enter Try.func63, Try.ntmps63
  go_wp2
  go_ret
  exact ⟨rfl, Blk.new _ _ _, (Only.refl _ _).alloc _, by simp⟩
end Go.Proofs.Ytnagknkllkdkaaa

namespace Go.Proofs.Ytnagknkllkdkaaa
open Go.RowKit
set_option maxRecDepth 10000

set_option maxHeartbeats 4000000 in
theorem memberAt_yes (n : Nat) {B : Nat} {L : Lay} {gv : Nat → Value} {gens : List (List Int)} {G : PM.Gens} {T : PM.Rows} {M F : List Nat} (k : Nat) (w : World) (hC : Ch 26 B w L gv n G T M F) (hCh : PM.Chain n gens G T) (hT : L.oT = 2) (hpn : ∀ g ∈ gens, PM.PN n g) (hk : k < ordC n gens n) :
    Calls Try.prog 39 #[.pointer (some ⟨L.g, 0, none⟩), .int .i64 k] w fun e w' => ∃ v f, e = .returned (.tuple #[v, .bool true]) ∧ Rd w' v (memAt n gens k) f ∧ Fresh w.heap.size w' f ∧ Only [] w w' := by
  have hn : 0 < n := hC.pos
  have hn20 : n ≤ 20 := hC.le
  have Hpn := Lib.hid hpn
  obtain ⟨R, hR⟩ : ∃ R, R = memAt n gens k := ⟨_, rfl⟩
  rw [← hR]
  have HR := Lib.hid hR
  clear hR hpn
  have hOE : ∀ j, j ≤ n → PM.ordM T n j = ordC n gens j := fun j hj => ordC_eq hCh hn Hpn.out hj
  have hole := ordC_le hCh hn Hpn.out hn20 (j := n) (Nat.le_refl _)
  have hRng : inR (k : Int) 0 ((ordC n gens n : Nat) - 1 : Int) = true := inR_iff.2 (by omega)
  have HOE := Lib.hid hOE
  have hst : ∀ i, i < n → k % ordC n gens (n - i) % ordC n gens (n - (i + 1)) = k % ordC n gens (n - (i + 1)) := fun i hi => mod_step hCh hn Hpn.out k hi
  have hgood := msel_good hCh hn Hpn.out k
  have hpos : ∀ j, j ≤ n → 1 ≤ ordC n gens j := fun j hj => ordC_pos hCh hn Hpn.out hj
  have hle : ∀ j, j ≤ n → ordC n gens j ≤ 2432902008176640000 := fun j hj => ordC_le hCh hn Hpn.out hn20 hj
  have hk0 : k % ordC n gens (n - 0) = k := by rw [Nat.sub_zero]; exact Nat.mod_eq_of_lt hk
  have Hst := Lib.hid hst
  have Hgood := Lib.hid hgood
  have Hpos := Lib.hid hpos
  have Hle := Lib.hid hle
  have Hk0 := Lib.hid hk0
  have HC := Lib.hid hC
  have hwf := hCh.inv.wf
  have Hwf := Lib.hid hwf
  have HoT := Lib.hid hT
  have hR0 : R = PM.desc T n (msel n gens k) (n - 0) 0 (PM.pts n) := by rw [HR.out, Nat.sub_zero]; exact (hCh.descG hn Hpn.out (msel n gens k) hgood).symm
  have HR0 := Lib.hid hR0
  have HCh := Lib.hid hCh
  have hcn := hC.cn
  obtain ⟨od, hod⟩ : ∃ od, od = ordC n gens n := ⟨_, rfl⟩
  rw [← hod] at hole hRng
  have HRng := Lib.hid hRng
  have HcO : Hid (Calls Try.prog 40 #[.pointer (some ⟨L.g, 0, none⟩), .int .i64 0] w fun e w' => e = .returned (.int .i64 (od : Nat)) ∧ Only [] w w') := Lib.hid (by
    rw [hod, ← hOE n (Nat.le_refl _)]
    exact implOrder0 hC hwf hT)
  have hwo : IntKind.i64.wrap ((od : Int) - 1) = (od : Int) - 1 := by rw [IntKind.wrap_i64]; omega
  have hbM0 := hC.lM
  have hbF0 := hC.lF
  clear hOE hRng hst hgood hpos hle hk0 hC hwf hT hR0 hCh hod
  go_enter Try.func39, Try.ntmps39
  go_wp2_with (first
    | (go_at_call 40; (with_reducible refine (HcO.out).mono ?_); rintro en w1 ⟨rfl, t1⟩; have c1n := t1.cell (by simp) hcn)
    | (go_at_call 74; (with_reducible refine (within_any (k : Int) 0 ((od : Int) - 1) _).mono ?_); rintro e w1' ⟨he, h1⟩; rw [HRng.out] at he; subst he; rw [h1]; clear h1)
    | (go_at_call 64; (with_reducible refine (implIdentity_any n w1 (by omega)).mono ?_); rintro en w4 ⟨v4, f4, rfl, r4, F4, t4⟩)
    | (go_at_call 63; (with_reducible refine (from_any L.g v4 (PM.pts n) f4 w4 r4).mono ?_); rintro en w5 ⟨rfl, hB5, t5, hs5⟩)
    | fail "no arm")
  have z1 := t1.size
  have z4 := t4.size
  have k5 : Only [] w w5 := (t1.trans t4).trans t5
  have hC5 := HC.out.keep k5
  have r5 := Rp.keep r4 t5
  have F5 : Fresh w.heap.size w5 f4 := (F4.keep t5).mono z1
  have hbM : ∀ z ∈ [w4.heap.size], z ∉ M := fun z hz hm => by have := hbM0 z hm; simp at hz; omega
  have hbF : ∀ z ∈ [w4.heap.size], z ∉ F := fun z hz hm => by have := hbF0 z hm; simp at hz; omega
  have HbM := Lib.hid hbM
  have HbF := Lib.hid hbF
  clear hbM hbF t1 t4 t5 r4 F4 hs5 c1n hbM0 hbF0 HcO
  go_loopw [1] (fun kv wr => ∃ (i : Nat) (v : Value) (m : List Int) (f : List Nat), i ≤ n ∧ kv = .int .i64 (k % ordC n gens (n - i) : Nat) ∧ Blk wr w4.heap.size [.pointer (some ⟨L.g, 0, none⟩), .int .i64 i, v] ∧ Rd wr v m f ∧ Fresh w.heap.size wr f ∧ Ch 26 B wr L gv n G T M F ∧ PM.Grp n gens m ∧ Hid (R = PM.desc T n (msel n gens k) (n - i) i m) ∧ Only [] w wr)
    (fun _ wr => n - (intOf ((wr.cell? ⟨w4.heap.size, 1, none⟩).getD undef)).toNat)
  case atStart => exact ⟨0, v4, PM.pts n, f4, Nat.zero_le _, by rw [Hk0.out], hB5, r5, F5, hC5, .id, HR0, k5⟩
  case round =>
    obtain ⟨W2, hnew⟩ : ∃ W, W = wr := ⟨_, rfl⟩
    subst hnew
    clear hB5 r5 F5 hC5 k5
    obtain ⟨i, v, m, f, hi, rfl, hB, hr, hF, hC, hgr, hRR, hO⟩ := hrel
    have y1 := hB.cell 1 rfl
    have yn := hC.cn
    go_upto_region 4 with fail
    go_quiet (fail)
    obtain ⟨W3, hW3⟩ : ∃ W, W = W2.drewN nq := ⟨_, rfl⟩
    have kq : Only [] W2 W3 := by rw [hW3]; exact (Only.refl _ _).drewN _
    rw [← hW3]
    have hB3 := hB.keep kq
    have hC3 := hC.keep kq
    have hr3 := Rp.keep hr kq
    have hF3 := hF.keep kq
    have hO3 := hO.trans kq
    have y13 := hB3.cell 1 rfl
    have hO2 := hO3.size
    have hbW := hB3.lt
    clear hW3
    by_cases hlt : i < n
    · have hpm : PM.PN n m := hgr.pn Hpn.out
      have hwf := Hwf.out
      obtain ⟨C, hCd⟩ : ∃ C, C = PM.cho n T i m := ⟨_, rfl⟩
      have hCl : C.length = PM.cntR n T i := by rw [hCd, PM.cho_len hpm]
      have hCl2 : C.length ≤ 20 := by rw [hCl]; have := PM.cntR_le n T i; omega
      obtain ⟨r, hrr⟩ : ∃ r, r = ordC n gens (n - (i + 1)) := ⟨_, rfl⟩
      obtain ⟨kk, hkk⟩ : ∃ kk, kk = k % ordC n gens (n - i) := ⟨_, rfl⟩
      obtain ⟨q, hq⟩ : ∃ q, q = kk / r := ⟨_, rfl⟩
      have hqs : q = msel n gens k i C.length := by rw [hq, hkk, hrr]; rfl
      have hql : q < C.length := by
        have h1 := Hgood.out i hlt
        rw [hCl]
        have h2 : msel n gens k i C.length = msel n gens k i (PM.cntR n T i) := rfl
        rw [hqs, h2]; exact h1
      have hkm : C[q] ∈ PM.cho n T i m := by rw [← hCd]; exact List.getElem_mem hql
      have hgr2 := HCh.out.putV hn Hpn.out hlt hgr hkm
      have hRR2 : R = PM.desc T n (msel n gens k) (n - (i + 1)) (i + 1) (PM.putV T i m C[q]) := by
        subst hCd
        rw [hRR.out]
        exact PM.desc_step hlt m hqs hql
      have hrp : 1 ≤ r := by rw [hrr]; exact Hpos.out _ (by omega)
      have hrl : r ≤ 2432902008176640000 := by rw [hrr]; exact Hle.out _ (by omega)
      have hkkl : kk ≤ 2432902008176640000 := by
        rw [hkk]
        have h1 := Nat.mod_lt k (show 0 < ordC n gens (n - i) from Hpos.out _ (by omega))
        have h2 := Hle.out (n - i) (by omega)
        omega
      have hdiv : Int.tdiv (kk : Int) (r : Int) = (q : Int) := by rw [tdiv_nat, hq]
      have hmod : Int.tmod (kk : Int) (r : Int) = ((k % ordC n gens (n - (i + 1)) : Nat) : Int) := by rw [tmod_nat, hkk, hrr, Hst.out i hlt]
      have hr0 : ¬ ((r : Int) = 0) := by omega
      have HcO : Hid (Calls Try.prog 40 #[.pointer (some ⟨L.g, 0, none⟩), .int .i64 ((i : Int) + 1)] W3 fun e w' => e = .returned (.int .i64 (r : Nat)) ∧ Only [] W3 w') := Lib.hid (by
        rw [hrr, ← HOE.out _ (by omega)]
        exact implOrder_any W3 hC3 hwf HoT.out (i + 1) (by omega))
      have HcS := Lib.hid (fun (V : World) (hV : Only [] W3 V) => walkSorted_any V (hC3.keep hV) hwf HoT.out w4.heap.size i hlt v m f (hB3.keep hV) (Rp.keep hr3 hV) hpm)
      rw [← hCd] at HcS
      obtain ⟨k2, hk2⟩ : ∃ k2, k2 = k % ordC n gens (n - (i + 1)) := ⟨_, rfl⟩
      rw [← hk2] at hmod
      rw [← hkk]
      have Hk2 := Lib.hid hk2
      have HRR2 := Lib.hid hRR2
      have Hgr2 := Lib.hid hgr2
      have Hkm := Lib.hid hkm
      have Hpm := Lib.hid hpm
      have HC3 := Lib.hid hC3
      have HB3 := Lib.hid hB3
      have hltI : (i : Int) < (n : Int) := by omega
      have hwi : IntKind.i64.wrap ((i : Int) + 1) = (i : Int) + 1 := by rw [IntKind.wrap_i64]; omega
      clear hCd hCl hrr hkk hq hqs hRR2 hgr2 hkm hpm hwf hC hC3 hB hB3 hgr hRR hk2 yn kq
      go_wp2_with (first
        | (go_at_call 40; (with_reducible refine (HcO.out).mono ?_); rintro en w6 ⟨rfl, t6⟩; have y16 := t6.cell (by simp) y13)
        | (go_at_call 65; (with_reducible refine (HcS.out w6 t6).mono ?_); rintro en w7 ⟨v7, rfl, hA7, t7⟩; obtain ⟨a7, c7, rfl, I7⟩ := hA7.rd.ints; obtain ⟨b8, o8, rfl, -, c8⟩ := I7.at_ q hql; have k37 := t6.trans t7)
        | (go_at_call 66; (with_reducible refine (take_yes w7 (HC3.out.keep k37) Hwf.out HoT.out w4.heap.size i hlt v m f (HB3.out.keep k37) (Rp.keep hr3 k37) Hpm.out C[q] Hkm.out).mono ?_); rintro en w9 ⟨rfl, ⟨v9, f9, B9, r9, F9⟩, O9⟩)
        | fail "no arm")
      have k29 : Only [] w w9 := (hO3.trans k37).then_ O9 (fun z hz hl => by simp at hz; omega)
      have HC9 := (HC3.out.keep k37).only O9 HbM.out HbF.out
      have F9' : Fresh w.heap.size w9 f9 := F9.mono (by have := k37.size; omega)
      have y9 := B9.cell 1 rfl
      go_roundw
      case rel => exact ⟨i + 1, v9, _, f9, by omega, by rw [Hk2.out], B9, r9, F9', HC9, Hgr2.out, HRR2, k29⟩
      case measure => rw [y9, y1]; simp [intOf]; omega
    · obtain rfl : i = n := by omega
      have hfin : R = m := by rw [hRR.out]; exact PM.desc_end (Nat.le_refl _) m
      have hge : ¬ ((i : Int) < (i : Int)) := by omega
      have y2 := hB3.cell 2 rfl
      have Hfin := Lib.hid hfin
      clear hfin hRR
      go_wp2
      exact bodyPost_ret (v := .tuple #[v, .bool true]) (by simp [results, Try.results39, go_sem]) rfl ⟨v, rfl, f, by rw [Hfin.out]; exact hr3, hF3, hO3⟩
end Go.Proofs.Ytnagknkllkdkaaa

namespace Go.Proofs.Ytnagknkllkdkaaa
open Go.RowKit
set_option maxRecDepth 10000
set_option maxHeartbeats 1000000 in
theorem specGroupOrder_yes (n : Nat) (vg : Value) (gens : List (List Int)) (fpg : List Nat) (w : World) (hg : Rd w vg gens fpg) (hgs : gensB n gens = true) :
    Calls Try.prog 28 #[.int .i64 n, vg] w fun e w' => e = .returned (.int .i64 (ordC n gens n : Nat)) ∧ 1 ≤ ordC n gens n ∧ ordC n gens n ≤ 2432902008176640000 ∧ Only [] w w' := by
  obtain ⟨⟨n1, n20⟩, hgl, hpn⟩ := gensB_iff.1 hgs
  have hpn' : ∀ g ∈ gens, PM.PN n g := by simpa using hpn
  have hn : 0 < n := by omega
  have hn20 : n ≤ 20 := by omega
  have Hgs := Lib.hid hgs
  have Hpn := Lib.hid hpn'
  clear hpn hpn' hgs
  go_enter Try.func28, Try.ntmps28
  go_wp2_with (first
    | (go_at_call 47; (with_reducible refine (specIsGens_rd n vg gens fpg w hg).mono ?_); rintro en w1 ⟨he, t1⟩; rw [Hgs.out] at he; subst he; have t1 := t1.only [])
    | (go_at_call 48; (with_reducible refine (buildChain_any n hn hn20 vg gens fpg w1 (Rp.keep hg t1) Hpn.out (by omega)).mono ?_); rintro en w3 ⟨L, gv, G, T, M, F, rfl, hoG, hoT, hC, hCh, t3⟩; have HC := Lib.hid hC; have HCh := Lib.hid hCh; have HoT := Lib.hid hoT; clear hC hCh hoT hoG)
    | (go_at_call 50; (with_reducible refine (chainOrder_any w3 HC.out HCh.out.inv.wf HoT.out).mono ?_); rintro en w4 ⟨he, t4⟩; rw [ordC_eq HCh.out hn Hpn.out (Nat.le_refl _)] at he; subst he)
    | fail "no arm")
  go_ret
  exact ⟨rfl, ordC_pos HCh.out hn Hpn.out (Nat.le_refl _), ordC_le HCh.out hn Hpn.out hn20 (Nat.le_refl _), (t1.trans t3).trans t4⟩
theorem specGroupOrder_i (n : Int) (vg : Value) (gens : List (List Int)) (fpg : List Nat) (w : World) (hg : Rd w vg gens fpg) (hgs : gensB n gens = true) :
    Calls Try.prog 28 #[.int .i64 n, vg] w fun e w' => e = .returned (.int .i64 (ordC n.toNat gens n.toNat : Nat)) ∧ 1 ≤ ordC n.toNat gens n.toNat ∧ ordC n.toNat gens n.toNat ≤ 2432902008176640000 ∧ Only [] w w' := by
  obtain ⟨⟨n1, n20⟩, -, -⟩ := gensB_iff.1 hgs
  obtain ⟨m, rfl⟩ := Int.eq_ofNat_of_zero_le (by omega : 0 ≤ n)
  exact specGroupOrder_yes m vg gens fpg w hg hgs
end Go.Proofs.Ytnagknkllkdkaaa

namespace Go.Proofs.Ytnagknkllkdkaaa
open Go.RowKit
set_option maxRecDepth 10000

/-- drawn: a degree, generators, a number -/
def DM (w : World) (s0 s1 s2 : Value) (wx : World) : Prop :=
  ∃ (n : Int) (gs : List (List Int)) (fp : List Nat) (k : Int), s0 = .int .i64 n ∧ s2 = .int .i64 k ∧ I64 n ∧ I64 k ∧ Rd wx s1 gs fp ∧ Fresh w.heap.size wx fp ∧ gs.length ≤ 9 ∧ (∀ y : List Int, y ∈ gs → y.length ≤ 30) ∧ Only [] w wx
theorem DM.of {w w1 w2 w4 : World} {g : Nat} {fc : List Nat} {l : List UInt8} {n k : Int} {v : Value} {gs : List (List Int)} {fp : List Nat} (t1 : Only [] w w1) (hg : w.heap.size ≤ g) (D1 : Src w1 g fc l) (hn : I64 n) (hk : I64 k) (r2 : Rd w2 v gs fp) (F2 : Fresh w1.heap.size w2 fp) (l9 : gs.length ≤ 9) (l30 : ∀ y : List Int, y ∈ gs → y.length ≤ 30) (K2 : Only [g] w1 w2) (K4 : Only [g] w2 w4) : DM w (.int .i64 n) v (.int .i64 k) w4 := by
  have hgl := D1.lt
  have hd : ∀ q ∈ fp, q ∉ [g] := fun q hq hm => by have := F2.ge q hq; simp at hm; omega
  exact ⟨n, gs, fp, k, rfl, rfl, hn, hk, Rp.only r2 K4 hd, (F2.only K4 hd).mono t1.size, l9, l30, ((t1.weaken [g]).trans (K2.trans K4)).mono fun b hb hl => by simp at hb; omega⟩
set_option maxHeartbeats 1000000 in
theorem specGroupOrder_no (n : Int) (vg : Value) (gens : List (List Int)) (fpg : List Nat) (w : World) (hg : Rd w vg gens fpg) (hgs : gensB n gens = false) :
    Calls Try.prog 28 #[.int .i64 n, vg] w fun e w' => e = .returned (.int .i64 0) ∧ Only [] w w' := by
  have Hgs := Lib.hid hgs
  clear hgs
  go_enter Try.func28, Try.ntmps28
  go_wp2_with (first
    | (go_at_call 47; (with_reducible refine (specIsGens_rd n vg gens fpg w hg).mono ?_); rintro en w1 ⟨he, t1⟩; rw [Hgs.out] at he; subst he; have t1 := t1.only [])
    | fail "no arm")
  go_ret
  exact ⟨rfl, t1⟩
/-- the order of a group, 0 of no group -/
noncomputable def ordG (n : Int) (gens : List (List Int)) : Nat := if gensB n gens = true then ordC n.toNat gens n.toNat else 0
theorem specGroupOrder_any (n : Int) (vg : Value) (gens : List (List Int)) (fpg : List Nat) (w : World) (hg : Rd w vg gens fpg) :
    Calls Try.prog 28 #[.int .i64 n, vg] w fun e w' => e = .returned (.int .i64 (ordG n gens : Nat)) ∧ ordG n gens ≤ 2432902008176640000 ∧ (gensB n gens = true → 1 ≤ ordG n gens) ∧ Only [] w w' := by
  by_cases h : gensB n gens = true
  · have e1 : ordG n gens = ordC n.toNat gens n.toNat := by unfold ordG; rw [if_pos h]
    rw [e1]
    refine (specGroupOrder_i n vg gens fpg w hg h).mono ?_
    rintro e w' ⟨h1, h2, h3, h4⟩
    exact ⟨h1, h3, fun _ => h2, h4⟩
  · have e1 : ordG n gens = 0 := by unfold ordG; rw [if_neg h]
    rw [e1]
    refine (specGroupOrder_no n vg gens fpg w hg (by simpa using h)).mono ?_
    rintro e w' ⟨h1, h4⟩
    exact ⟨h1, by omega, fun hh => absurd hh h, h4⟩
set_option maxHeartbeats 2000000 in
theorem drawMemberAt_any (v : Value) (l : List UInt8) (fc : List Nat) (w : World) (h : Rd w v l fc) (hl : l.length ≤ 4096) :
    Calls Try.prog 16 #[v] w fun e w' => ∃ s0 s1 s2, e = .returned (.tuple #[s0, s1, s2]) ∧ DM w s0 s1 s2 w' := by
  go_enter Try.func16, Try.ntmps16
  go_wp2_with (first
    | (go_at_call 43; (with_reducible refine (newSource_any v l fc w h hl).mono ?_); rintro e w1 ⟨g, rfl, D1, hg, t1⟩)
    | (go_at_call 44; (with_reducible refine (drawGroup_any g fc l w1 D1 hl).mono ?_); rintro e w2 ⟨s4, s5, rfl, n, gs, fp, rfl, hn, r2, F2, l9, l30, D2, K2⟩; obtain ⟨a2, c2, ob2, fps2, rfl, -, -⟩ := id r2.open_)
    | (go_at_call 28; (with_reducible refine (specGroupOrder_any n _ gs fp w2 r2).mono ?_); rintro e w3 ⟨rfl, o1, -, t3⟩; obtain ⟨od, hod⟩ : ∃ od, od = ordG n gs := ⟨_, rfl⟩; rw [← hod] at o1 ⊢; have HoI : Hid (I64 (max (od : Int) 1)) := Lib.hid (by unfold I64; omega); clear hod)
    | (go_at_call 45; (with_reducible refine (numberUpTo_any g fc l (max (od : Int) 1) w3 (D2.keep t3) hl HoI.out).mono ?_); rintro e w4 ⟨y, rfl, hy, D4, K4⟩)
    | fail "no arm")
  exact bodyPost_ret (v := .tuple #[.int .i64 n, .slice a2 gs.length c2, .int .i64 y]) (by simp [results, Try.results16, go_sem]) rfl ⟨_, _, _, rfl, DM.of t1 hg D1 hn hy r2 F2 l9 l30 K2 ((t3.weaken [g]).trans K4)⟩
end Go.Proofs.Ytnagknkllkdkaaa

namespace Go.Proofs.Ytnagknkllkdkaaa
open Go.RowKit
set_option maxRecDepth 10000

/-- how many are less -/
def cntB (v : Int) (l : List Int) : Nat := (l.filter fun x => decide (x < v)).length
theorem cntB_le (v : Int) (l : List Int) : cntB v l ≤ l.length := List.length_filter_le _ _
theorem cntB_snoc (v : Int) (l : List Int) (x : Int) : cntB v (l ++ [x]) = cntB v l + (if x < v then 1 else 0) := by
  unfold cntB
  rw [List.filter_append, List.length_append]
  by_cases h : x < v <;> simp [h]
theorem cntB_perm (v : Int) {l l' : List Int} (h : l.Perm l') : cntB v l = cntB v l' := (h.filter _).length_eq
theorem cntB_asc : ∀ {l : List Int} (_ : PM.Asc l) {q : Nat} (hq : q < l.length), cntB l[q] l = q
  | x :: l, h, 0, _ => by
    obtain ⟨a, -⟩ := List.pairwise_cons.1 h
    unfold cntB
    rw [List.getElem_cons_zero, List.filter_eq_nil_iff.2 (fun y hy => by
      rcases List.mem_cons.1 hy with rfl | hy
      · simp
      · have := a y hy; simp; omega)]
    rfl
  | x :: l, h, q + 1, hq => by
    obtain ⟨a, b⟩ := List.pairwise_cons.1 h
    have hq' : q < l.length := by simpa using hq
    have ih := cntB_asc b hq'
    have hx : x < l[q] := a _ (List.getElem_mem _)
    unfold cntB at ih ⊢
    rw [List.getElem_cons_succ, List.filter_cons, if_pos (by simpa using hx), List.length_cons, ih]
set_option maxHeartbeats 4000000 in
theorem walkBelow_any {e : TypeId} {B : Nat} {L : Lay} {gv : Nat → Value} {n : Nat} {G : PM.Gens} {T : PM.Rows} {M F : List Nat} (w : World) (hC : Ch e B w L gv n G T M F) (hw : PM.WF n T) (hT : L.oT = 2) (b i : Nat) (hi : i < n) (v : Value) (m : List Int) (fm : List Nat)
    (hb : Blk w b [.pointer (some ⟨L.g, 0, none⟩), .int .i64 i, v]) (hv : Rd w v m fm) (hm : PM.PN n m) (val : Int) (_hval : I64 val) :
    Calls Try.prog 90 #[.pointer (some ⟨b, 0, none⟩), .int .i64 val] w fun e w' => ∃ nx : Int, e = .returned (.tuple #[.int .i64 (cntB val (PM.cho n T i m) : Nat), .int .i64 nx]) ∧ Only [] w w' := by
  have HcV := Lib.hid (values_any w hC hT b i hi v m fm hb hv hm)
  obtain ⟨C, hCd⟩ : ∃ C, C = PM.cho n T i m := ⟨_, rfl⟩
  have hn20 := hC.le
  have hAs : PM.Asc C := by rw [hCd]; exact PM.choO_asc _ _
  have hCb : ∀ x ∈ C, I64 x := fun x hx => by rw [hCd] at hx; have := PM.cho_pre hm hx; unfold I64; omega
  have hCl : C.length ≤ 1000 := by rw [hCd, PM.cho_len hm]; have := PM.cntR_le n T i; omega
  have hCne : C ≠ [] := fun hc => by
    have h1 := PM.cho_len (T := T) (i := i) hm
    rw [← hCd, hc] at h1
    have h2 := PM.cntR_pos hw hi
    simp at h1; omega
  have hgC : ∀ x, (gV m (orb n T i) x).isSome = decide (x ∈ C) := fun x => by
    rw [hCd]
    by_cases hx : x ∈ PM.cho n T i m
    · rw [gV_yes hx]; simp [hx]
    · rw [gV_no hx]; simp [hx]
  rw [← hCd]
  have HAs := Lib.hid hAs
  have HCb := Lib.hid hCb
  have HCne := Lib.hid hCne
  have HgC := Lib.hid hgC
  clear hC hm hb hv hw hAs hCb hCne hgC hCd
  go_enter Try.func90, Try.ntmps90
  go_wp2_with (first
    | (go_at_call 94; (with_reducible refine (HcV.out).mono ?_); rintro en w1 ⟨K, rfl, hK, hM, t1⟩; obtain ⟨D, hown, hg⟩ := hM)
    | (at_range; refine wpList_range_own _ rfl _ 109 rfl 2 2 Try.lawI64 Try.underlying109 _ K 1000 D rfl hown ?_; intro w0 hrg0 hg0 hs0)
    | fail "no arm")
  go_frame
  have hKl := hown.lt
  have k01 : Only [] w1 w0 := (Only.refl _ _).grown hg0 (by intro j hj; cases hj)
  have kw0 : Only [] w w0 := t1.trans k01
  have hl0 : KL C (Go.Maps.has D) [] := ⟨List.nodup_nil, fun x hx => by
      rw [(hg x hx).1, HgC.out]
      by_cases hm : x ∈ C <;> simp [hm], by simp, fun x hx hl => by rw [(hg x hx).1, HgC.out] at hl; simpa using hl⟩
  clear hg hg0 hown t1 k01
  go_loopw [6, 7] (fun c o wr => ∃ (left : Lit → Bool) (cnt : Nat) (l : List Int) (nx : Int), wr.ranges Try.prog 2 (plainElem Try.prog 2) K w1.heap.size 1000 D left cnt ∧ c = .int .i64 (cntB val l : Nat) ∧ o = .int .i64 nx ∧ KL C left l ∧ Only [] w wr)
    (fun _ _ wr => wr.rangeLeft K w1.heap.size)
  case atStart => exact ⟨_, _, [], -1, hrg0, rfl, rfl, hl0, kw0⟩
  case round =>
    obtain ⟨W2, hnew⟩ : ∃ W, W = wr := ⟨_, rfl⟩
    subst hnew
    obtain ⟨left, cnt, l, nx, hrg, rfl, rfl, hKL, hO⟩ := hrel
    have hll : l.length ≤ 1000 := Nat.le_trans (PM.nodup_sub_len hKL.nd fun x hx => ((hKL.iff x (hKL.big x hx)).1 hx).1) hCl
    have hcl := cntB_le val l
    obtain ⟨cb, hcb⟩ : ∃ cb, cb = cntB val l := ⟨_, rfl⟩
    rw [← hcb] at hcl ⊢
    have Hcb := Lib.hid hcb
    clear hcb
    go_wp2_with (first
      | (at_next; refine wpList_next_ranges_ii _ rfl _ rfl 2 2 .i64 .i64 Try.lawI64 Try.underlying2 Try.underlying2 K w1.heap.size 1000 _ _ _ rfl hrg ?_ ?_)
      | fail "no arm")
    · intro _ hl0
      have hfin := hKL.end_ hl0 HAs.out HCb.out
      have hce : cb = cntB val C := by rw [Hcb.out, ← hfin]; exact (cntB_perm val (List.mergeSort_perm l _)).symm
      have Hce := Lib.hid hce
      clear hce hfin hl0
      go_wp2
      exact bodyPost_ret (v := .tuple #[.int .i64 (cb : Nat), .int .i64 nx]) (by simp [results, Try.results90, go_sem]) rfl ⟨nx, by rw [Hce.out], hO⟩
    · intro x c w2 cnt1 hwx hwc hlx hat hrg1 hlt hg1 hs1 hen
      have hxI : I64 x := by have h9 := hwx; simp [Lit.wf, IntKind.min, IntKind.max, IntKind.signed, IntKind.bits] at h9; unfold I64; omega
      have k2 : Only [w1.heap.size] W2 w2 := (Only.refl _ _).grown hg1 (by intro j hj _; injection hj with hj; subst hj; simp)
      have hO2 : Only [] w w2 := hO.then_ k2 (fun z hz hl => by simp at hz; have := kw0.size; omega)
      have hK2 := hKL.step hxI hlx
      have Hst := Lib.hid (show cntB val (l ++ [x]) = cb + (if x < val then 1 else 0) by rw [Hcb.out]; exact cntB_snoc val l x)
      have HK2 := Lib.hid hK2
      have Hs1 := Lib.hid hs1
      clear hs1 hKL hxI hat hwx hwc hlx hK2
      go_wp2_with fail
      all_goals first
        | exact ⟨⟨_, cnt1, l ++ [x], _, hrg1, by rw [Hst.out, if_pos (by omega)]; go_num, rfl, HK2.out, hO2⟩, by rw [hrg1.left_eq, hrg.left_eq]; exact hlt⟩
        | exact ⟨⟨_, cnt1, l ++ [x], _, hrg1, by rw [Hst.out, if_neg (by omega)]; rfl, rfl, HK2.out, hO2⟩, by rw [hrg1.left_eq, hrg.left_eq]; exact hlt⟩
end Go.Proofs.Ytnagknkllkdkaaa

namespace PM
theorem desc_alike {n : Nat} {T : Rows} (hw : WF n T) (sel : Nat → Nat → Nat) (hs : ∀ i, i < n → sel i (cntR n T i) < cntR n T i) : ∀ (k i : Nat) (m : List Int), i + k = n → PN n m → PN n (desc T n sel k i m) ∧ Alike i (desc T n sel k i m) m
  | 0, _, _, _, hm => ⟨hm, fun _ _ _ => rfl⟩
  | k + 1, i, m, hi, hm => by
    have hl := cho_len (T := T) (i := i) hm
    have hlt : sel i (cho n T i m).length < (cho n T i m).length := by rw [hl]; exact hs i (by omega)
    have hv : (cho n T i m).getD (sel i (cho n T i m).length) 0 ∈ cho n T i m := by rw [List.getD_eq_getElem?_getD, List.getElem?_eq_getElem hlt]; exact List.getElem_mem hlt
    obtain ⟨p1, p2, -⟩ := putV_pn hw (by omega : i < n) hm hv
    obtain ⟨q1, q2⟩ := desc_alike hw sel hs k (i + 1) _ (by omega) p1
    exact ⟨q1, fun x x0 x1 => (q2 x x0 (by omega)).trans (p2 x x0 x1)⟩
/-- the entry that a level chooses stays -/
theorem desc_at {n : Nat} {T : Rows} (hw : WF n T) (sel : Nat → Nat → Nat) (hs : ∀ i, i < n → sel i (cntR n T i) < cntR n T i) {i : Nat} (hi : i < n) {m : List Int} (hm : PN n m) {q : Nat} (hq : q = sel i (cho n T i m).length) (hl : q < (cho n T i m).length) :
    at_ (desc T n sel (n - i) i m) (i : Int) = (cho n T i m)[q] := by
  rw [desc_step hi m hq hl]
  have hv : (cho n T i m)[q] ∈ cho n T i m := List.getElem_mem hl
  obtain ⟨p1, p2, p3⟩ := putV_pn hw hi hm hv
  obtain ⟨-, q2⟩ := desc_alike hw sel hs (n - (i + 1)) (i + 1) _ (by omega) p1
  rw [q2 (i : Int) (by omega) (by omega), p3]
end PM
namespace Go.Proofs.Ytnagknkllkdkaaa
open Go.RowKit
set_option maxRecDepth 10000

/-- one level more: what the levels above stand for -/
theorem sum_step {k a b q r : Nat} (hq : q = (k % a) / r) (hb : k % a % r = k % b) (hbr : b = r) : (k - k % a) + q * r = k - k % b := by
  subst hbr
  have h1 := Nat.div_add_mod (k % a) b
  have h2 := Nat.mod_le k a
  rw [← hq, hb, Nat.mul_comm] at h1
  omega

theorem rank_chain (n : Nat) (vg : Value) (gens : List (List Int)) (fpg : List Nat) (w : World) (hg : Rd w vg gens fpg) (hgs : gensB n gens = true) : ∃ G T, PM.Chain n gens G T := by
  obtain ⟨⟨n1, n20⟩, hgl, hpn⟩ := gensB_iff.1 hgs
  obtain ⟨e, w', fr, ⟨L, gv, G, T, M, F, -, -, -, -, h, -⟩, -⟩ := buildChain_any n (by omega) (by omega) vg gens fpg w hg (by simpa using hpn) (by omega) []
  exact ⟨G, T, h⟩


end Go.Proofs.Ytnagknkllkdkaaa

namespace Go.Proofs.Ytnagknkllkdkaaa
open Go.RowKit
set_option maxRecDepth 10000

set_option maxHeartbeats 4000000 in
theorem implCountBelow_at (n : Nat) {B : Nat} {L : Lay} {gv : Nat → Value} {gens : List (List Int)} {G : PM.Gens} {T : PM.Rows} {M F : List Nat} (k : Nat) (vp : Value) (p : List Int) (fp : List Nat) (w : World) (hC : Ch 26 B w L gv n G T M F) (hCh : PM.Chain n gens G T) (hT : L.oT = 2) (hpn : ∀ g ∈ gens, PM.PN n g) (hp : Rd w vp p fp) (hk : k < ordC n gens n) (hpe : p = memAt n gens k) :
    Calls Try.prog 57 #[.pointer (some ⟨L.g, 0, none⟩), vp] w fun e w' => e = .returned (.tuple #[.int .i64 k, .bool true]) ∧ Only [] w w' := by
  have hn : 0 < n := hC.pos
  have hn20 : n ≤ 20 := hC.le
  obtain ⟨aP, cP, rfl, IP⟩ := hp.ints
  have hgood := msel_good hCh hn hpn k
  have hpd : p = PM.desc T n (msel n gens k) (n - 0) 0 (PM.pts n) := by rw [hpe, Nat.sub_zero]; exact (hCh.descG hn hpn (msel n gens k) hgood).symm
  have hpl : p.length = n := by rw [hpe]; exact ((hCh.descG_grp hn hpn (msel n gens k) hgood).pn hpn).1
  have HOE : Hid (∀ j, j ≤ n → PM.ordM T n j = ordC n gens j) := Lib.hid (fun j hj => ordC_eq hCh hn hpn hj)
  have Hst : Hid (∀ i, i < n → k % ordC n gens (n - i) % ordC n gens (n - (i + 1)) = k % ordC n gens (n - (i + 1))) := Lib.hid (fun i hi => mod_step hCh hn hpn k hi)
  have Hle : Hid (∀ j, j ≤ n → ordC n gens j ≤ 2432902008176640000) := Lib.hid (fun j hj => ordC_le hCh hn hpn hn20 hj)
  have Hk0 : Hid (k - k % ordC n gens (n - 0) = 0) := Lib.hid (by rw [Nat.sub_zero, Nat.mod_eq_of_lt hk]; omega)
  have Hk1 : Hid (k - k % ordC n gens (n - n) = k) := Lib.hid (by
    have h1 : ordC n gens (n - n) = 1 := by rw [← HOE.out _ (by omega), Nat.sub_self]; rfl
    rw [h1, Nat.mod_one]; rfl)
  have hkle : k ≤ 2432902008176640000 := by have := Hle.out n (Nat.le_refl _); omega
  have Hgood := Lib.hid hgood
  have Hwf := Lib.hid hCh.inv.wf
  have HoT := Lib.hid hT
  have HC := Lib.hid hC
  have HCh := Lib.hid hCh
  have Hpn := Lib.hid hpn
  have Hpd := Lib.hid hpd
  have Hpl := Lib.hid hpl
  have HIP := Lib.hid IP
  have hcn := hC.cn
  have hbM0 := hC.lM
  have hbF0 := hC.lF
  have hfpl := Rp.lt hp
  clear hC hCh hT hpn hgood hpd hpl hpe hk hp IP
  go_enter Try.func57, Try.ntmps57
  go_wp2_with (first
    | (go_at_call 64; (with_reducible refine (implIdentity_any n w (by omega)).mono ?_); rintro en w4 ⟨v4, f4, rfl, r4, F4, t4⟩)
    | (go_at_call 63; (with_reducible refine (from_any L.g v4 (PM.pts n) f4 w4 r4).mono ?_); rintro en w5 ⟨rfl, hB5, t5, hs5⟩)
    | fail "no arm")
  have z4 := t4.size
  have k5 : Only [] w w5 := t4.trans t5
  have hC5 := HC.out.keep k5
  have r5 := Rp.keep r4 t5
  have hbM : ∀ z ∈ [w4.heap.size], z ∉ M := fun z hz hm => by have := hbM0 z hm; simp at hz; omega
  have hbF : ∀ z ∈ [w4.heap.size], z ∉ F := fun z hz hm => by have := hbF0 z hm; simp at hz; omega
  have HbM := Lib.hid hbM
  have HbF := Lib.hid hbF
  clear hbM hbF t4 t5 r4 F4 hs5 hbM0 hbF0
  go_loopw [7] (fun tv wr => ∃ (i : Nat) (v : Value) (m : List Int) (f : List Nat), i ≤ n ∧ tv = .int .i64 (k - k % ordC n gens (n - i) : Nat) ∧ Blk wr w4.heap.size [.pointer (some ⟨L.g, 0, none⟩), .int .i64 i, v] ∧ Rd wr v m f ∧ Ch 26 B wr L gv n G T M F ∧ PM.Grp n gens m ∧ Hid (p = PM.desc T n (msel n gens k) (n - i) i m) ∧ Only [] w wr)
    (fun _ wr => n - (intOf ((wr.cell? ⟨w4.heap.size, 1, none⟩).getD undef)).toNat)
  case atStart => exact ⟨0, v4, PM.pts n, f4, Nat.zero_le _, by rw [Hk0.out]; rfl, hB5, r5, hC5, .id, Hpd, k5⟩
  case round =>
    obtain ⟨W2, hnew⟩ : ∃ W, W = wr := ⟨_, rfl⟩
    subst hnew
    clear hB5 r5 hC5 k5
    obtain ⟨i, v, m, f, hi, rfl, hB, hr, hC, hgr, hRR, hO⟩ := hrel
    have y0 := hB.cell 0 rfl
    have y1 := hB.cell 1 rfl
    have yn := hC.cn
    obtain ⟨tot, htot⟩ : ∃ tot, tot = k - k % ordC n gens (n - i) := ⟨_, rfl⟩
    rw [← htot]
    have Htot := Lib.hid htot
    clear htot
    go_upto_region 3 with fail
    go_quiet (fail)
    obtain ⟨W3, hW3⟩ : ∃ W, W = W2.drewN nq := ⟨_, rfl⟩
    have kq : Only [] W2 W3 := by rw [hW3]; exact (Only.refl _ _).drewN _
    rw [← hW3]
    have hB3 := hB.keep kq
    have hC3 := hC.keep kq
    have hr3 := Rp.keep hr kq
    have hO3 := hO.trans kq
    have y13 := hB3.cell 1 rfl
    have hO2 := hO3.size
    have hbW := hB3.lt
    clear hW3
    by_cases hlt : i < n
    · have hpm : PM.PN n m := hgr.pn Hpn.out
      have hwf := Hwf.out
      obtain ⟨C, hCd⟩ : ∃ C, C = PM.cho n T i m := ⟨_, rfl⟩
      have hCl : C.length = PM.cntR n T i := by rw [hCd, PM.cho_len hpm]
      have hasc : PM.Asc C := by rw [hCd]; exact PM.choO_asc _ _
      obtain ⟨r, hrr⟩ : ∃ r, r = ordC n gens (n - (i + 1)) := ⟨_, rfl⟩
      obtain ⟨q, hq⟩ : ∃ q, q = (k % ordC n gens (n - i)) / r := ⟨_, rfl⟩
      have hqs : q = msel n gens k i C.length := by rw [hq, hrr]; rfl
      have hql : q < C.length := by
        have h1 := Hgood.out i hlt
        rw [hCl]
        have h2 : msel n gens k i C.length = msel n gens k i (PM.cntR n T i) := rfl
        rw [hqs, h2]; exact h1
      have hkm : C[q] ∈ PM.cho n T i m := by rw [← hCd]; exact List.getElem_mem hql
      have hgr2 := HCh.out.putV hn Hpn.out hlt hgr hkm
      have hRR2 : p = PM.desc T n (msel n gens k) (n - (i + 1)) (i + 1) (PM.putV T i m C[q]) := by
        subst hCd
        rw [hRR.out]
        exact PM.desc_step hlt m hqs hql
      have hjp : i < p.length := by rw [Hpl.out]; exact hlt
      have hpj : p[i] = C[q] := by
        rw [← PM.at_nat p i hjp]
        have h1 := PM.desc_at hwf (msel n gens k) Hgood.out hlt hpm (q := q) (by rw [hqs, hCd]) (by rw [← hCd]; exact hql)
        rw [← hRR.out] at h1
        rw [h1]
        subst hCd
        rfl
      have htot2 : tot + q * r = k - k % ordC n gens (n - (i + 1)) := by rw [Htot.out]; exact sum_step hq (by rw [hrr]; exact Hst.out i hlt) hrr.symm
      have htl : tot + q * r ≤ k := by rw [htot2]; omega
      obtain ⟨qr, hqr⟩ : ∃ qr, qr = q * r := ⟨_, rfl⟩
      rw [← hqr] at htot2 htl
      have hwm : IntKind.i64.wrap ((q : Int) * (r : Int)) = (qr : Int) := by rw [← Int.natCast_mul, ← hqr, IntKind.wrap_i64]; omega
      obtain ⟨s2, hs2⟩ : ∃ s2, s2 = tot + qr := ⟨_, rfl⟩
      have hws : IntKind.i64.wrap ((tot : Int) + (qr : Int)) = (s2 : Int) := by rw [hs2, IntKind.wrap_i64]; omega
      have hjP : (i : Int) < (p.length : Int) := by omega
      have hi0 : (0 : Int) ≤ (i : Int) := by omega
      obtain ⟨b4, o4, rfl, -, c4⟩ := (HIP.out.keep hO3).at_ i hjp
      rw [hpj] at c4
      obtain ⟨x, hx⟩ : ∃ x, x = C[q] := ⟨_, rfl⟩
      have hxI : I64 x := by rw [hx]; have := PM.cho_pre hpm hkm; unfold I64; omega
      have hcnt : cntB x C = q := by rw [hx]; exact cntB_asc hasc hql
      rw [← hx] at c4 hkm hgr2 hRR2
      have HcS : Hid (Calls Try.prog 90 #[.pointer (some ⟨w4.heap.size, 0, none⟩), .int .i64 x] W3 fun e w' => ∃ nx : Int, e = .returned (.tuple #[.int .i64 (q : Nat), .int .i64 nx]) ∧ Only [] W3 w') := Lib.hid (by
        have h1 := walkBelow_any W3 hC3 hwf HoT.out w4.heap.size i hlt v m f hB3 hr3 hpm x hxI
        rw [← hCd, hcnt] at h1
        exact h1)
      have HcO : Hid (∀ V : World, Only [] W3 V → Calls Try.prog 40 #[.pointer (some ⟨L.g, 0, none⟩), .int .i64 ((i : Int) + 1)] V fun e w' => e = .returned (.int .i64 (r : Nat)) ∧ Only [] V w') := Lib.hid (fun V hV => by
        rw [hrr, ← HOE.out _ (by omega)]
        exact implOrder_any V (hC3.keep hV) hwf HoT.out (i + 1) (by omega))
      have Hs2 : Hid (s2 = k - k % ordC n gens (n - (i + 1))) := Lib.hid (by rw [hs2, htot2])
      have HRR2 := Lib.hid hRR2
      have Hgr2 := Lib.hid hgr2
      have Hkm := Lib.hid hkm
      have Hpm := Lib.hid hpm
      have HC3 := Lib.hid hC3
      have HB3 := Lib.hid hB3
      have hltI : (i : Int) < (n : Int) := by omega
      have hwi : IntKind.i64.wrap ((i : Int) + 1) = (i : Int) + 1 := by rw [IntKind.wrap_i64]; omega
      clear hCd hCl hrr hq hqs hRR2 hgr2 hkm hpm hwf hC hC3 hB hB3 hgr hRR yn kq hqr hs2 htot2 htl hx hpj hcnt hasc hjp
      go_wp2_with (first
        | (go_at_call 90; (with_reducible refine (HcS.out).mono ?_); rintro en w6 ⟨nx, rfl, t6⟩; have y16 := t6.cell (by simp) y13)
        | (go_at_call 40; (with_reducible refine (HcO.out w6 t6).mono ?_); rintro en w7 ⟨rfl, t7⟩; have y17 := t7.cell (by simp) y16; have k37 := t6.trans t7)
        | (go_at_call 66; (with_reducible refine (take_yes w7 (HC3.out.keep k37) Hwf.out HoT.out w4.heap.size i hlt v m f (HB3.out.keep k37) (Rp.keep hr3 k37) Hpm.out x Hkm.out).mono ?_); rintro en w9 ⟨rfl, ⟨v9, f9, B9, r9, F9⟩, O9⟩)
        | fail "no arm")
      have k29 : Only [] w w9 := (hO3.trans k37).then_ O9 (fun z hz hl => by simp at hz; omega)
      have HC9 := (HC3.out.keep k37).only O9 HbM.out HbF.out
      have y9 := B9.cell 1 rfl
      go_roundw
      case rel => exact ⟨i + 1, v9, _, f9, by omega, by rw [Hs2.out], B9, r9, HC9, Hgr2.out, HRR2, k29⟩
      case measure => rw [y9, y1]; simp [intOf]; omega
    · obtain rfl : i = n := by omega
      have hge : ¬ ((i : Int) < (i : Int)) := by omega
      have htk : tot = k := by rw [Htot.out]; exact Hk1.out
      have Htk := Lib.hid htk
      clear htk
      go_wp2
      exact bodyPost_ret (v := .tuple #[.int .i64 tot, .bool true]) (by simp [results, Try.results57, go_sem]) rfl ⟨by rw [Htk.out], hO3⟩
end Go.Proofs.Ytnagknkllkdkaaa

namespace Go.Proofs.Ytnagknkllkdkaaa
open Go.RowKit
set_option maxRecDepth 10000
set_option maxHeartbeats 1000000 in
theorem implRank_at (n : Nat) (vg vp : Value) (gens : List (List Int)) (p : List Int) (fpg fp : List Nat) (k : Nat) (w : World) (hg : Rd w vg gens fpg) (hp : Rd w vp p fp) (hgs : gensB n gens = true) (hk : k < ordC n gens n) (hpe : p = memAt n gens k) (hpp : PM.PN n p) :
    Calls Try.prog 21 #[.int .i64 n, vg, vp] w fun e w' => e = .returned (.int .i64 k) ∧ Only [] w w' := by
  obtain ⟨⟨n1, n20⟩, hgl, hpn⟩ := gensB_iff.1 hgs
  have hpn' : ∀ g ∈ gens, PM.PN n g := by simpa using hpn
  have hn : 0 < n := by omega
  have hn20 : n ≤ 20 := by omega
  have Hpb := Lib.hid (permB_iff.2 ⟨by rw [hpp.1]; omega, hpp.2⟩)
  have Hpl := Lib.hid hpp.1
  have Hgs := Lib.hid hgs
  have Hpn := Lib.hid hpn'
  have Hk := Lib.hid hk
  have Hpe := Lib.hid hpe
  clear hpn hpn' hgs hk hpe hpp
  go_enter Try.func21, Try.ntmps21
  go_wp2_with (first
    | (go_at_call 46; (with_reducible refine (implIsGens_rd n vg gens fpg w hg).mono ?_); rintro en w1 ⟨he, t1⟩; rw [Hgs.out] at he; subst he)
    | (go_at_call 55; (with_reducible refine (lengthInt_q vp p fp _ (Rp.keep hp (by with_reducible repeat (first | exact Only.refl _ _ | assumption | refine Only.drewN ?_ _ | refine Only.drew ?_ | refine Only.alloc ?_ _ | refine Only.setCell ?_ (by intro hh; exfalso; simp at hh; try omega) _ | refine Only.trans ?_ (by assumption))))).mono ?_); rintro en w2 ⟨he, n2, rfl⟩; rw [Hpl.out] at he; subst he)
    | (go_at_call 56; (with_reducible refine (implIsPerm_rd vp p fp _ (Rp.keep hp (by with_reducible repeat (first | exact Only.refl _ _ | assumption | refine Only.drewN ?_ _ | refine Only.drew ?_ | refine Only.alloc ?_ _ | refine Only.setCell ?_ (by intro hh; exfalso; simp at hh; try omega) _ | refine Only.trans ?_ (by assumption))))).mono ?_); rintro en w3 ⟨he, n3, rfl⟩; rw [Hpb.out] at he; subst he)
    | (go_at_call 37; (with_reducible refine (implNewChain_any n hn hn20 vg gens fpg _ (Rp.keep hg (by with_reducible repeat (first | exact Only.refl _ _ | assumption | refine Only.drewN ?_ _ | refine Only.drew ?_ | refine Only.alloc ?_ _ | refine Only.setCell ?_ (by intro hh; exfalso; simp at hh; try omega) _ | refine Only.trans ?_ (by assumption)))) Hpn.out (by omega)).mono ?_); rintro en w4 ⟨L, gv, G, T, M, F, rfl, -, hoT, hC, hCh, t4⟩; have HC := Lib.hid hC; have HCh := Lib.hid hCh; have HoT := Lib.hid hoT; clear hC hCh hoT)
    | (go_at_call 57; (with_reducible refine (implCountBelow_at n k vp p fp w4 HC.out HCh.out HoT.out Hpn.out (Rp.keep hp (by with_reducible repeat (first | exact Only.refl _ _ | assumption | refine Only.drewN ?_ _ | refine Only.drew ?_ | refine Only.alloc ?_ _ | refine Only.setCell ?_ (by intro hh; exfalso; simp at hh; try omega) _ | refine Only.trans ?_ (by assumption)))) Hk.out Hpe.out).mono ?_); rintro en w5 ⟨rfl, t5⟩)
    | fail "no arm")
  go_ret
  exact ⟨rfl, (by with_reducible repeat (first | exact Only.refl _ _ | assumption | refine Only.drewN ?_ _ | refine Only.drew ?_ | refine Only.alloc ?_ _ | refine Only.setCell ?_ (by intro hh; exfalso; simp at hh; try omega) _ | refine Only.trans ?_ (by assumption)))⟩
set_option maxHeartbeats 1000000 in
theorem implIsMember_yes (n : Nat) (vg vp : Value) (gens : List (List Int)) (p : List Int) (fpg fp : List Nat) (w : World) (hg : Rd w vg gens fpg) (hp : Rd w vp p fp) (hgs : gensB n gens = true) (hgr : PM.Grp n gens p) :
    Calls Try.prog 23 #[.int .i64 n, vg, vp] w fun e w' => e = .returned (.bool true) ∧ Only [] w w' := by
  obtain ⟨⟨n1, n20⟩, hgl, hpn⟩ := gensB_iff.1 hgs
  have hpn' : ∀ g ∈ gens, PM.PN n g := by simpa using hpn
  have hn : 0 < n := by omega
  have hn20 : n ≤ 20 := by omega
  have hpp := hgr.pn hpn'
  have Hmb : Hid (memB n gens p = true) := Lib.hid (by unfold memB; exact @decide_eq_true _ (Classical.propDecidable _) hgr)
  have Hpb := Lib.hid (permB_iff.2 ⟨by rw [hpp.1]; omega, hpp.2⟩)
  have Hpl := Lib.hid hpp.1
  have Hpp := Lib.hid hpp
  have Hgs := Lib.hid hgs
  have Hpn := Lib.hid hpn'
  clear hpn hpn' hgs hpp hgr
  go_enter Try.func23, Try.ntmps23
  go_wp2_with (first
    | (go_at_call 46; (with_reducible refine (implIsGens_rd n vg gens fpg w hg).mono ?_); rintro en w1 ⟨he, t1⟩; rw [Hgs.out] at he; subst he)
    | (go_at_call 55; (with_reducible refine (lengthInt_q vp p fp _ (Rp.keep hp (by with_reducible repeat (first | exact Only.refl _ _ | assumption | refine Only.drewN ?_ _ | refine Only.drew ?_ | refine Only.alloc ?_ _ | refine Only.setCell ?_ (by intro hh; exfalso; simp at hh; try omega) _ | refine Only.trans ?_ (by assumption))))).mono ?_); rintro en w2 ⟨he, n2, rfl⟩; rw [Hpl.out] at he; subst he)
    | (go_at_call 56; (with_reducible refine (implIsPerm_rd vp p fp _ (Rp.keep hp (by with_reducible repeat (first | exact Only.refl _ _ | assumption | refine Only.drewN ?_ _ | refine Only.drew ?_ | refine Only.alloc ?_ _ | refine Only.setCell ?_ (by intro hh; exfalso; simp at hh; try omega) _ | refine Only.trans ?_ (by assumption))))).mono ?_); rintro en w3 ⟨he, n3, rfl⟩; rw [Hpb.out] at he; subst he)
    | (go_at_call 37; (with_reducible refine (implNewChain_any n hn hn20 vg gens fpg _ (Rp.keep hg (by with_reducible repeat (first | exact Only.refl _ _ | assumption | refine Only.drewN ?_ _ | refine Only.drew ?_ | refine Only.alloc ?_ _ | refine Only.setCell ?_ (by intro hh; exfalso; simp at hh; try omega) _ | refine Only.trans ?_ (by assumption)))) Hpn.out (by omega)).mono ?_); rintro en w4 ⟨L, gv, G, T, M, F, rfl, -, hoT, hC, hCh, t4⟩; have HC := Lib.hid hC; have HCh := Lib.hid hCh; have HoT := Lib.hid hoT; clear hC hCh hoT)
    | (go_at_call 58; (with_reducible refine (implHas0 HC.out HCh.out.inv.wf HoT.out (Rp.keep hp (by with_reducible repeat (first | exact Only.refl _ _ | assumption | refine Only.drewN ?_ _ | refine Only.drew ?_ | refine Only.alloc ?_ _ | refine Only.setCell ?_ (by intro hh; exfalso; simp at hh; try omega) _ | refine Only.trans ?_ (by assumption)))) Hpp.out).mono ?_); rintro en w5 ⟨he, t5⟩; rw [memB_has HCh.out hn Hpn.out Hpp.out, Hmb.out] at he; subst he)
    | fail "no arm")
  go_ret
  exact ⟨rfl, (by with_reducible repeat (first | exact Only.refl _ _ | assumption | refine Only.drewN ?_ _ | refine Only.drew ?_ | refine Only.alloc ?_ _ | refine Only.setCell ?_ (by intro hh; exfalso; simp at hh; try omega) _ | refine Only.trans ?_ (by assumption)))⟩
set_option maxHeartbeats 1000000 in
theorem memberAt_no (n : Nat) {B : Nat} {L : Lay} {gv : Nat → Value} {gens : List (List Int)} {G : PM.Gens} {T : PM.Rows} {M F : List Nat} (k : Int) (w : World) (hC : Ch 26 B w L gv n G T M F) (hCh : PM.Chain n gens G T) (hT : L.oT = 2) (hpn : ∀ g ∈ gens, PM.PN n g) (hk : ¬ (0 ≤ k ∧ k < (ordC n gens n : Int))) :
    Calls Try.prog 39 #[.pointer (some ⟨L.g, 0, none⟩), .int .i64 k] w fun e w' => e = .returned (.tuple #[.slice none 0 0, .bool false]) ∧ Only [] w w' := by
  have hn : 0 < n := hC.pos
  have hole := ordC_le hCh hn hpn hC.le (j := n) (Nat.le_refl _)
  have h1 := ordC_pos hCh hn hpn (j := n) (Nat.le_refl _)
  obtain ⟨od, hod⟩ : ∃ od, od = ordC n gens n := ⟨_, rfl⟩
  rw [← hod] at hole hk h1
  have hRng : inR k 0 ((od : Nat) - 1 : Int) = false := by
    rcases hq : inR k 0 ((od : Nat) - 1 : Int)
    · rfl
    · have := inR_iff.1 hq; omega
  have HRng := Lib.hid hRng
  have HcO : Hid (Calls Try.prog 40 #[.pointer (some ⟨L.g, 0, none⟩), .int .i64 0] w fun e w' => e = .returned (.int .i64 (od : Nat)) ∧ Only [] w w') := Lib.hid (by
    rw [hod, ← ordC_eq hCh hn hpn (Nat.le_refl _)]
    exact implOrder0 hC hCh.inv.wf hT)
  have hwo : IntKind.i64.wrap ((od : Int) - 1) = (od : Int) - 1 := by rw [IntKind.wrap_i64]; omega
  clear hC hCh hT hpn hod hRng hk h1
  go_enter Try.func39, Try.ntmps39
  go_wp2_with (first
    | (go_at_call 40; (with_reducible refine (HcO.out).mono ?_); rintro en w1 ⟨rfl, t1⟩)
    | (go_at_call 74; (with_reducible refine (within_any k 0 ((od : Int) - 1) _).mono ?_); rintro e w1' ⟨he, h1⟩; rw [HRng.out] at he; subst he; rw [h1]; clear h1)
    | fail "no arm")
  exact bodyPost_ret (v := .tuple #[.slice none 0 0, .bool false]) (by simp [results, Try.results39, go_sem]) rfl ⟨rfl, t1⟩
/-- the member of a rank, or nothing -/
noncomputable def memO (n : Nat) (gens : List (List Int)) (k : Nat) : List Int := if k < ordC n gens n then memAt n gens k else []
set_option maxHeartbeats 1000000 in
theorem implMemberAt_any (n : Nat) (vg : Value) (gens : List (List Int)) (fpg : List Nat) (k : Nat) (w : World) (hg : Rd w vg gens fpg) (hgs : gensB n gens = true) :
    Calls Try.prog 17 #[.int .i64 n, vg, .int .i64 k] w fun e w' => ∃ v f, e = .returned (.tuple #[v, .bool (decide (k < ordC n gens n))]) ∧ Rd w' v (memO n gens k) f ∧ Only [] w w' := by
  obtain ⟨⟨n1, n20⟩, hgl, hpn⟩ := gensB_iff.1 hgs
  have hpn' : ∀ g ∈ gens, PM.PN n g := by simpa using hpn
  have hn : 0 < n := by omega
  have hn20 : n ≤ 20 := by omega
  have Hgs := Lib.hid hgs
  have Hpn := Lib.hid hpn'
  clear hpn hpn' hgs
  by_cases hk : k < ordC n gens n
  · have Hd := Lib.hid (decide_eq_true hk)
    have Hm : Hid (memO n gens k = memAt n gens k) := Lib.hid (by unfold memO; rw [if_pos hk])
    have Hk := Lib.hid hk
    clear hk
    go_enter Try.func17, Try.ntmps17
    go_wp2_with (first
      | (go_at_call 46; (with_reducible refine (implIsGens_rd n vg gens fpg w hg).mono ?_); rintro en w1 ⟨he, t1⟩; rw [Hgs.out] at he; subst he)
      | (go_at_call 37; (with_reducible refine (implNewChain_any n hn hn20 vg gens fpg w1 (Rp.keep hg t1) Hpn.out (by omega)).mono ?_); rintro en w4 ⟨L, gv, G, T, M, F, rfl, -, hoT, hC, hCh, t4⟩; have HC := Lib.hid hC; have HCh := Lib.hid hCh; have HoT := Lib.hid hoT; clear hC hCh hoT)
      | (go_at_call 39; (with_reducible refine (memberAt_yes n k w4 HC.out HCh.out HoT.out Hpn.out Hk.out).mono ?_); rintro en w5 ⟨v5, f5, rfl, r5, F5, t5⟩)
      | fail "no arm")
    exact bodyPost_ret (v := .tuple #[v5, .bool true]) (by simp [results, Try.results17, go_sem]) rfl ⟨v5, f5, by rw [Hd.out], by rw [Hm.out]; exact r5, (t1.trans t4).trans t5⟩
  · have Hd := Lib.hid (decide_eq_false hk)
    have Hm : Hid (memO n gens k = []) := Lib.hid (by unfold memO; rw [if_neg hk])
    have Hk : Hid (¬ (0 ≤ (k : Int) ∧ (k : Int) < (ordC n gens n : Int))) := Lib.hid (by omega)
    clear hk
    go_enter Try.func17, Try.ntmps17
    go_wp2_with (first
      | (go_at_call 46; (with_reducible refine (implIsGens_rd n vg gens fpg w hg).mono ?_); rintro en w1 ⟨he, t1⟩; rw [Hgs.out] at he; subst he)
      | (go_at_call 37; (with_reducible refine (implNewChain_any n hn hn20 vg gens fpg w1 (Rp.keep hg t1) Hpn.out (by omega)).mono ?_); rintro en w4 ⟨L, gv, G, T, M, F, rfl, -, hoT, hC, hCh, t4⟩; have HC := Lib.hid hC; have HCh := Lib.hid hCh; have HoT := Lib.hid hoT; clear hC hCh hoT)
      | (go_at_call 39; (with_reducible refine (memberAt_no n (k : Int) w4 HC.out HCh.out HoT.out Hpn.out Hk.out).mono ?_); rintro en w5 ⟨rfl, t5⟩)
      | fail "no arm")
    exact bodyPost_ret (v := .tuple #[.slice none 0 0, .bool false]) (by simp [results, Try.results17, go_sem]) rfl ⟨.slice none 0 0, [], by rw [Hd.out], by rw [Hm.out]; exact nil_rd _, (t1.trans t4).trans t5⟩
end Go.Proofs.Ytnagknkllkdkaaa
