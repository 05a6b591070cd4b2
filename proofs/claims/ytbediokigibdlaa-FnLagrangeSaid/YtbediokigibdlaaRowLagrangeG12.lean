/- The program's walk down a chain: values, take, from (laws 33, 47). The program's walk down a chain: sorted, from; its generator (laws 33, 47). The program's walk down a chain: how many values are less (laws 34, 35). The program's RandomMember (laws 35, 47). All members of a chain, level by level, are the members of the ranks in their order (laws 32, 36, 44). Cosets of a group: the least permutation of a coset, the representatives (laws 39, 48). The program's walk down to the least: below at -1, finish; the reference's cosetMinimum (laws 39, 48). All members of a chain are the members of the ranks (laws 32, 36, 44). The program's memberAt: the member of a rank (laws 33, 34, ..). The reference's allMembers and Members; the program's members and Members (laws 32, 36, 44). The reference's MemberAt: the member of a rank (laws 33, 34, ..). The reference's Rank of the member of a rank (laws 34, 35, 53). The program's countBelow and Rank of the member of a rank (laws 34, 35). RandomState, of the reference and of the program (law 33). The program's Rank, IsMember, MemberAt, FirstNonIdentity; random members of no group (laws 34, 35). The program's members, Members, GroupOrder, OrbitSizes, hasAll, SameGroup; the reference's Members, OrbitSizes, PermutationLess (laws 32, 36, 44). Orbit sizes of both, hasAll, SameGroup of a group with itself, the order of permutations (law 36; laws 37, 39, 48). -/
import Derived.Test.YtbediokigibdlaaRowLagrangeG3
import Derived.Test.YtbediokigibdlaaRowLagrangeG7
import Derived.Test.YtbediokigibdlaaRowLagrangeG8
import Derived.Test.YtbediokigibdlaaRowLagrangeG11
import Derived.Test.YtbediokigibdlaaRowLagrangeG9
import Derived.Deep.RegionLaw
import Derived.Test.YtbediokigibdlaaRowLagrangeG10
import Derived.Test.YtbediokigibdlaaRowLagrangeG6
import Derived.Deep.QuietTactic
import Derived.Test.YtbediokigibdlaaRowLagrangeG1
import Derived.Deep.RegionHeld3
namespace Go.Proofs.Ytbediokigibdlaa
open Go.RowKit
set_option maxRecDepth 10000

/-- a value's point -/
def gV (m ys : List Int) (x : Int) : Option Int := if x ∈ PM.choO m ys then some (PM.at_ (PM.inv m) x) else none
theorem gV_nil (m : List Int) (x : Int) : gV m [] x = none := rfl
theorem gV_snoc {n : Nat} {m : List Int} (hm : PM.PN n m) {ys : List Int} {y : Int} (h0 : 0 ≤ y) (h1 : y < n) (x : Int) : (if x = PM.at_ m y then some y else gV m ys x) = gV m (ys ++ [y]) x := by
  unfold gV
  rw [PM.choO_snoc]
  by_cases hx : x = PM.at_ m y
  · rw [if_pos hx, if_pos (PM.mem_insU.2 (Or.inl hx)), hx, PM.at_inv hm h0 h1]
  · rw [if_neg hx]
    by_cases hm2 : x ∈ PM.choO m ys
    · rw [if_pos hm2, if_pos (PM.mem_insU.2 (Or.inr hm2))]
    · rw [if_neg hm2, if_neg (fun h => (PM.mem_insU.1 h).elim hx hm2)]
theorem Mpv.mono {w : World} {M k k' : Nat} {g : Int → Option Int} (h : Mpv w M k g) (hk : k ≤ k') : Mpv w M k' g := by
  obtain ⟨D, h1, h2⟩ := h
  exact ⟨D, h1.mono hk, h2⟩
set_option maxHeartbeats 2000000 in
theorem values_any {e : TypeId} {B : Nat} {L : Lay} {gv : Nat → Value} {n : Nat} {G : PM.Gens} {T : PM.Rows} {M F : List Nat} (w : World) (hC : Ch e B w L gv n G T M F) (hT : L.oT = 2) (b i : Nat) (hi : i < n) (v : Value) (m : List Int) (fm : List Nat)
    (hb : Blk w b [.pointer (some ⟨L.g, 0, none⟩), .int .i64 i, v]) (hv : Rd w v m fm) (hm : PM.PN n m) :
    Calls Try.prog 110 #[.pointer (some ⟨b, 0, none⟩)] w fun e w' => ∃ K, e = .returned (.map (some K)) ∧ w.heap.size ≤ K ∧ Mpv w' K 1000 (gV m (orb n T i)) ∧ Only [] w w' := by
  obtain ⟨A, C, rfl, IM⟩ := hv.ints
  have hn20 := hC.le
  have hml := hm.1
  have ct := hC.ct
  rw [hT] at ct
  have cr := hC.row i hi
  have kA : Only [] w (w.alloc (.map #[] 0)) := (Only.refl _ _).alloc _
  have z0 := kA.cell (by simp) (hb.cell 0 rfl)
  have z1 := kA.cell (by simp) (hb.cell 1 rfl)
  have zt := kA.cell (by simp) ct
  have zr := kA.cell (by simp) cr
  have y2 := hb.cell 2 rfl
  have hmm := @run_makeMap Try.prog
  have M0 := (Mpv.made w rfl).congr (fun x => (gV_nil m x).symm)
  obtain ⟨ys, hys⟩ : ∃ ys, ys = orb n T i := ⟨_, rfl⟩
  have hyr : ∀ y ∈ ys, 0 ≤ y ∧ y < n := fun y hy => by rw [hys] at hy; exact (mem_orb.1 hy).1
  have hyl : ys.length ≤ 20 := by
    rw [hys]
    have h1 : (orb n T i).length ≤ (PM.pts n).length := PM.nodup_sub_len (orb_nodup n T i) fun y hy => PM.mem_pts.2 (mem_orb.1 hy).1
    rw [PM.pts_len] at h1
    omega
  rw [← hys]
  have Hys := Lib.hid hys
  have HC := Lib.hid hC
  have Hm := Lib.hid hm
  have HIM := Lib.hid IM
  have HM0 := Lib.hid M0
  have Hyr := Lib.hid hyr
  have Hml := Lib.hid hml
  clear hC hm M0 hT hys hyr IM hml ct cr
  go_enter Try.func110, Try.ntmps110
  go_wp2_with fail
  go_region_held3 (fun w' => Only [] (w.alloc (.map #[] 0)) w' ∧ w'.cell? ⟨b, 0, none⟩ = some (.pointer (some ⟨L.g, 0, none⟩)) ∧ w'.cell? ⟨b, 1, none⟩ = some (.int .i64 i) ∧ w'.cell? ⟨L.g, 2, none⟩ = some (.slice (some ⟨L.bt, 0, none⟩) n L.cT) ∧ w'.cell? ⟨L.bt, i, none⟩ = some (.slice (some ⟨L.rb i, 0, none⟩) n n)) (((refine and_of ?_ (fun h__ => ⟨h__.cell (by simp) z0, h__.cell (by simp) z1, h__.cell (by simp) zt, h__.cell (by simp) zr⟩)); first | exact (Only.refl _ _).drew | exact ((Only.refl _ _).drewN _).drew | exact Only.trans (And.left (by assumption)) (by assumption) | exact Only.alloc (And.left (by assumption)) _ | assumption)) (first | (go_at_call 90; (with_reducible refine (orbitOf_any _ (HC.out.keep (kA.trans (And.left (by assumption)))) i hi).mono ?_); rintro e w1 ⟨vo, fo, rfl, A1, F1, t1⟩; rw [← Hys.out] at A1; have kX : Only [] (w.alloc (.map #[] 0)) w1 := Only.trans (And.left (by assumption)) t1; have kB := Only.trans kA kX; have r1 := A1.rd (by decide); have F2 := A1.fresh F1; obtain ⟨ao, co, rfl, IO⟩ := r1.ints) | fail "no arm")
  have hge : ∀ b ∈ ((Value.slice ao ys.length co).ownBlock.toList ++ fo.flatten), w.heap.size < b := fun b hb => by
    have := F2.ge b hb
    simp at this
    omega
  have HIO := Lib.hid IO
  have Hge := Lib.hid hge
  clear A1 F1 F2 r1 IO hge z0 z1 zt zr t1
  go_wp2_with fail
  go_loopw [22] (fun i wr => ∃ j : Nat, j ≤ ys.length ∧ i = .int .i64 j ∧ Mpv wr w.heap.size j (gV m (ys.take j)) ∧ Only [w.heap.size] w1 wr)
    (fun i _ => ys.length - (intOf i).toNat)
  case atStart => exact ⟨0, Nat.zero_le _, rfl, HM0.out.keep kX, Only.refl _ _⟩
  case round =>
    obtain ⟨W2, hnew⟩ : ∃ W, W = wr := ⟨_, rfl⟩
    subst hnew
    obtain ⟨j, hj, rfl, hM, hO⟩ := hrel
    have KO : Only [] w W2 := kB.then_ hO (fun b hb hl => by simp at hb; omega)
    by_cases hlt : j < ys.length
    · obtain ⟨y, hy⟩ : ∃ y, y = ys[j] := ⟨_, rfl⟩
      have hyr := Hyr.out y (by rw [hy]; exact List.getElem_mem hlt)
      obtain ⟨b2, o2, rfl, -, c2⟩ := (HIO.out.only hO (fun b hb hm => by have := Hge.out b hb; simp at hm; omega)).at_ j hlt
      rw [← hy] at c2
      obtain ⟨b3, o3, rfl, -, c3⟩ := (HIM.out.keep KO).at_pm (x := y) hyr.1 (by rw [Hml.out]; exact hyr.2)
      have y2' := KO.cell (by simp) y2
      have hym : y < (m.length : Int) := by rw [Hml.out]; exact hyr.2
      have hy0 := hyr.1
      have hmr := Hm.out.rng hyr.1 hyr.2
      obtain ⟨w3, hrun3, hM3, hO3⟩ := hM.run_put (s := PM.at_ m y) (by unfold I64; omega) (n := y) (by unfold I64; omega) (by unfold maxLen; omega)
      have htk : ys.take (j + 1) = ys.take j ++ [y] := by rw [take_succ_get ys j hlt, hy]
      have Htk := Lib.hid htk
      clear htk hy
      go_wp2
      go_roundw
      case rel => exact ⟨j + 1, by omega, by go_num, hM3.congr (fun x => by rw [Htk.out]; exact gV_snoc Hm.out hyr.1 hyr.2 x), hO.trans hO3⟩
      case measure => simp [intOf]; omega
    · have hfin : Mpv W2 w.heap.size 1000 (gV m ys) := by
        rw [List.take_of_length_le (by omega)] at hM
        exact hM.mono (by omega)
      go_wp2
      go_ret
      exact ⟨w.heap.size, rfl, Nat.le_refl _, hfin, KO⟩
theorem gV_yes {n : Nat} {T : PM.Rows} {i : Nat} {m : List Int} {vv : Int} (h : vv ∈ PM.cho n T i m) : gV m (orb n T i) vv = some (PM.at_ (PM.inv m) vv) := if_pos h
theorem gV_no {n : Nat} {T : PM.Rows} {i : Nat} {m : List Int} {vv : Int} (h : vv ∉ PM.cho n T i m) : gV m (orb n T i) vv = none := if_neg h
/-- the walk has taken a value: q is chosen, the level is still i -/
def TK (w : World) (L : Lay) (b i : Nat) (q : List Int) (wx : World) : Prop :=
  ∃ a c f', Blk wx b [.pointer (some ⟨L.g, 0, none⟩), .int .i64 i, .slice a q.length c] ∧ Rd wx (.slice a q.length c) q f' ∧ Fresh w.heap.size wx f' ∧ Only [b] w wx
theorem TK.of {w w1 w5 w6 : World} {L : Lay} {b i : Nat} {q : List Int} {a : Option Addr} {c : Nat} {f' : List Nat} {v : Value} (t1 : Only [] w w1) (k5 : Only [] w1 w5) (Y5 : Blk w5 b [.pointer (some ⟨L.g, 0, none⟩), .int .i64 i, v]) (hb : b < w.heap.size)
    (r5 : Rd w5 (.slice a q.length c) q f') (F5 : Fresh w1.heap.size w5 f') (h6 : w6 = w5.setCell ⟨b, 2, none⟩ (.slice a q.length c)) : TK w L b i q w6 := by
  subst h6
  have hs : Only [b] w5 (w5.setCell ⟨b, 2, none⟩ (.slice a q.length c)) := (Only.refl _ _).setCell (by simp) _
  have hsz := t1.size
  have hd : ∀ z ∈ f', z ∉ [b] := fun z hz hm => by have := F5.ge z hz; simp at hm; omega
  have hB := Y5.set 2 (.slice a q.length c)
  simp only [List.set] at hB
  exact ⟨a, c, f', hB, Rp.only r5 hs hd, (F5.mono hsz).only hs hd, ((t1.trans k5).weaken _).trans hs⟩
set_option maxHeartbeats 4000000 in
theorem take_yes {e : TypeId} {B : Nat} {L : Lay} {gv : Nat → Value} {n : Nat} {G : PM.Gens} {T : PM.Rows} {M F : List Nat} (w : World) (hC : Ch e B w L gv n G T M F) (hw : PM.WF n T) (hT : L.oT = 2) (b i : Nat) (hi : i < n) (v : Value) (m : List Int) (fm : List Nat)
    (hb : Blk w b [.pointer (some ⟨L.g, 0, none⟩), .int .i64 i, v]) (hv : Rd w v m fm) (hm : PM.PN n m) (vv : Int) (hvv : vv ∈ PM.cho n T i m) :
    Calls Try.prog 97 #[.pointer (some ⟨b, 0, none⟩), .int .i64 vv] w fun e w' => e = .returned (.bool true) ∧ (∃ v' f', Blk w' b [.pointer (some ⟨L.g, 0, none⟩), .int .i64 ((i : Int) + 1), v'] ∧ Rd w' v' (PM.putV T i m vv) f' ∧ Fresh w.heap.size w' f') ∧ Only [b] w w' := by
  have hn20 := hC.le
  obtain ⟨hv0, hv1, hp0, hp1, hp2, hp3⟩ := PM.cho_pre hm hvv
  have hI : I64 vv := by unfold I64; omega
  have HcV := Lib.hid (values_any w hC hT b i hi v m fm hb hv hm)
  have Hyes := Lib.hid (gV_yes hvv)
  obtain ⟨A, C, rfl, IM⟩ := hv.ints
  obtain ⟨y, hy⟩ : ∃ y, y = PM.at_ (PM.inv m) vv := ⟨_, rfl⟩
  rw [← hy] at Hyes hp0 hp1 hp2 hp3
  have hput : PM.putV T i m vv = PM.comp (PM.tr T i y) m := by unfold PM.putV; rw [← hy]
  have ct := hC.ct
  rw [hT] at ct
  have cr := hC.row i hi
  obtain ⟨bt, ot, capt, ft, crt, hrt, -⟩ := hC.at_some hi hp0 hp1 hp2
  have htp := hw.pn i y hi hp2
  have hlt := Lib.hid htp.1
  have HC := Lib.hid hC
  have Hm := Lib.hid hm
  have Hp := Lib.hid hput
  have Htp := Lib.hid htp
  have HI := Lib.hid hI
  have y0 := hb.cell 0 rfl
  have y1 := hb.cell 1 rfl
  have y2 := hb.cell 2 rfl
  have hblt := hb.lt
  clear hC hm hvv hI hy hput hp2 hp3 htp hv0 hv1 IM
  go_enter Try.func97, Try.ntmps97
  go_upto_region 4 with (first
    | (go_at_call 110; (with_reducible refine (HcV.out).mono ?_); rintro en w1 ⟨K, rfl, hK, hM, t1⟩; have hrun := hM.run_yes HI.out Hyes.out)
    | fail "no arm")
  have x0 := t1.cell (by simp) y0
  have x1 := t1.cell (by simp) y1
  have x2 := t1.cell (by simp) y2
  have xt := t1.cell (by simp) ct
  have xr := t1.cell (by simp) cr
  have xy := t1.cell (by simp) crt
  clear y0 y1 y2 ct cr crt hrun hM
  have kd : Only [] w1 w1.drew := (Only.refl _ _).drew
  have d0 := kd.cell (by simp) x0
  have d1 := kd.cell (by simp) x1
  have d2 := kd.cell (by simp) x2
  have dt := kd.cell (by simp) xt
  have dr := kd.cell (by simp) xr
  have dy := kd.cell (by simp) xy
  have HcC := Lib.hid (fun (W : World) (hW : Only [] w1 W) => implCompose_rd n _ _ (PM.tr T i y) m _ _ W (Rp.keep hrt (Only.trans t1 hW)) (Rp.keep hv (Only.trans t1 hW)) Htp.out Hm.out (by omega))
  have Hb := Lib.hid (fun (W : World) (hW : Only [] w1 W) => hb.keep (t1.trans hW))
  clear kd
  go_cut [] (fun wx => TK w L b i (PM.comp (PM.tr T i y) m) wx)
  case first =>
   go_region_law (first
    | (go_simp; go_at_call 50; (with_reducible refine (HcC.out _ (by with_reducible repeat (first | exact Only.refl _ _ | refine Only.drew ?_))).mono ?_); rintro e w5 ⟨v5, f5, rfl, r5, F5, t5⟩; have k5 : Only [] w1 w5 := Only.trans (by with_reducible repeat (first | exact Only.refl _ _ | refine Only.drew ?_)) t5; have Y5 := Hb.out _ k5; have x5 := Y5.cell 2 rfl; have q5 := Y5.frozen 2; have r50 := r5; obtain ⟨a5, c5, rfl, _⟩ := r5.ints)
    | fail "no arm")
   all_goals go_wp2_with fail
   all_goals go_meet
   all_goals exact TK.of t1 k5 Y5 hblt r50 (F5.mono (by simp)) rfl
  case rest =>
    obtain ⟨a6, c6, f6, B6, r6, F6, O6⟩ := hcut
    obtain ⟨W2, hnew⟩ : ∃ W, W = wc := ⟨_, rfl⟩
    subst hnew
    have z1 := B6.cell 1 rfl
    have p1 := B6.frozen 1
    have hs : Only [b] W2 (W2.setCell ⟨b, 1, none⟩ (.int .i64 ((i : Int) + 1))) := (Only.refl _ _).setCell (by simp) _
    have hd : ∀ z ∈ f6, z ∉ [b] := fun z hz hm => by have := F6.ge z hz; simp at hm; omega
    have hB := B6.set 1 (.int .i64 ((i : Int) + 1))
    simp only [List.set] at hB
    have hfin := (⟨⟨_, _, hB, Rp.only r6 hs hd, F6.only hs hd⟩, O6.trans hs⟩ : (∃ v' f', Blk (W2.setCell ⟨b, 1, none⟩ (.int .i64 ((i : Int) + 1))) b [.pointer (some ⟨L.g, 0, none⟩), .int .i64 ((i : Int) + 1), v'] ∧ Rd (W2.setCell ⟨b, 1, none⟩ (.int .i64 ((i : Int) + 1))) v' (PM.comp (PM.tr T i y) m) f' ∧ Fresh w.heap.size (W2.setCell ⟨b, 1, none⟩ (.int .i64 ((i : Int) + 1))) f') ∧ Only [b] w (W2.setCell ⟨b, 1, none⟩ (.int .i64 ((i : Int) + 1))))
    have hwi : IntKind.i64.wrap ((i : Int) + 1) = (i : Int) + 1 := by rw [IntKind.wrap_i64]; omega
    have Hfin := Lib.hid hfin
    clear hfin hB hs hd r6 F6 O6
    go_wp2
    go_ret
    rw [Hp.out]
    exact ⟨rfl, Hfin.out⟩
end Go.Proofs.Ytbediokigibdlaa

namespace Go.Proofs.Ytbediokigibdlaa
open Go.RowKit
set_option maxRecDepth 10000
theorem AccI.low {B B' : Nat} {e : TypeId} {w : World} {v : Value} {l : List Int} (h : AccI B e w v l) (hB : B' ≤ B) : AccI B' e w v l := by
  obtain ⟨h1, h2⟩ := h.row
  refine AccI.ofRow ⟨h1.1, ?_⟩ h2
  rcases h1.2 with h3 | ⟨g, cap, cur, h3, h4, h5⟩
  · exact .inl h3
  · exact .inr ⟨g, cap, cur, h3, Nat.le_trans hB h4, h5⟩
theorem same_int (a b : Int) : (Lit.int .i64 a).sameKey (.int .i64 b) = decide (a = b) := by
  show decide (IntKind.i64 = IntKind.i64 ∧ a = b) = _
  by_cases h : a = b <;> simp [h]
/-- the keys met so far: l; those to come: left -/
structure KL (C : List Int) (left : Lit → Bool) (l : List Int) : Prop where
  nd : l.Nodup
  iff : ∀ x, I64 x → (x ∈ l ↔ x ∈ C ∧ left (.int .i64 x) = false)
  big : ∀ x ∈ l, I64 x
  dom : ∀ x, I64 x → left (.int .i64 x) = true → x ∈ C
theorem KL.step {C : List Int} {left : Lit → Bool} {l : List Int} (h : KL C left l) {x : Int} (hx : I64 x) (hl : left (.int .i64 x) = true) : KL C (fun z => left z && !z.sameKey (.int .i64 x)) (l ++ [x]) := by
  have hn : x ∉ l := fun hm => by have := ((h.iff x hx).1 hm).2; rw [hl] at this; cases this
  refine ⟨?_, fun y hy => ?_, fun y hy => ?_, fun y hy hl2 => ?_⟩
  · rw [List.nodup_append]
    exact ⟨h.nd, by simp, fun a ha b hb => by simp at hb; subst hb; intro e; subst e; exact hn ha⟩
  · rw [List.mem_append, h.iff y hy]
    simp only [List.mem_singleton, same_int]
    by_cases he : y = x
    · subst he; simp [h.dom _ hx hl]
    · simp [he]
  · rcases List.mem_append.1 hy with hy | hy
    · exact h.big y hy
    · simp at hy; subst hy; exact hx
  · simp only [same_int, Bool.and_eq_true] at hl2
    exact h.dom y hy hl2.1
theorem KL.end_ {C : List Int} {left : Lit → Bool} {l : List Int} (h : KL C left l) (hl : ∀ z, left z = false) (hC : PM.Asc C) (hCb : ∀ x ∈ C, I64 x) : (l.mergeSort fun x y => decide (x ≤ y)) = C := by
  refine PM.asc_ext (sorted_asc h.nd) hC fun x => ?_
  rw [sorted_mem]
  constructor
  · intro hx; exact ((h.iff x (h.big x hx)).1 hx).1
  · intro hx; exact (h.iff x (hCb x hx)).2 ⟨hx, hl _⟩
end Go.Proofs.Ytbediokigibdlaa

namespace Go.Proofs.Ytbediokigibdlaa
open Go.RowKit
set_option maxRecDepth 10000
end Go.Proofs.Ytbediokigibdlaa

namespace Go.Proofs.Ytbediokigibdlaa
open Go.RowKit
set_option maxRecDepth 10000

theorem from_any (g : Nat) (v : Value) (m : List Int) (f : List Nat) (w : World) (hv : Rd w v m f) :
    Calls Try.prog 61 #[.pointer (some ⟨g, 0, none⟩), v] w fun e w' => e = .returned (.pointer (some ⟨w.heap.size, 0, none⟩)) ∧ Blk w' w.heap.size [.pointer (some ⟨g, 0, none⟩), .int .i64 (0 : Nat), v] ∧ Only [] w w' ∧ w'.heap.size = w.heap.size + 1 := by
  obtain ⟨A, C, rfl, -⟩ := hv.ints
  go_enter Try.func61, Try.ntmps61
  go_wp2
  go_ret
  exact ⟨rfl, Blk.new _ _ _, (Only.refl _ _).alloc _, by simp⟩


end Go.Proofs.Ytbediokigibdlaa

namespace PM

/-- the members that begin as m, by the levels that are left -/
def dn (T : Rows) (n : Nat) : Nat → Nat → List Int → List (List Int)
  | 0, _, m => [m]
  | k + 1, i, m => (cho n T i m).flatMap fun v => dn T n k (i + 1) (putV T i m v)
/-- before, in the order of the entries -/
def Lex (n : Nat) (p q : List Int) : Prop := ∃ i : Nat, i < n ∧ Alike i p q ∧ at_ p (i : Int) < at_ q (i : Int)
end PM

namespace PM

/-- q lies in the coset of p -/
def Cs (n : Nat) (gens : List (List Int)) (p q : List Int) : Prop := PN n q ∧ Grp n gens (comp q (inv p))
theorem Cs.refl {n : Nat} {gens : List (List Int)} {p : List Int} (h : PN n p) : Cs n gens p p := ⟨h, by rw [comp_inv h]; exact .id⟩
theorem Cs.right {n : Nat} {gens : List (List Int)} {p q g : List Int} (h : PN n p) (hg : PN n g) (c : Cs n gens p q) : Cs n gens (comp p g) (comp q g) := by
  refine ⟨c.1.comp hg, ?_⟩
  have e : comp (comp q g) (inv (comp p g)) = comp q (inv p) := by
    rw [inv_comp_eq h hg, comp_assoc c.1 hg, ← comp_assoc hg hg.inv, comp_inv hg, id_comp h.inv]
  rw [e]
  exact c.2
section
variable {n : Nat} {gens : List (List Int)} (hp : ∀ g ∈ gens, PN n g)
include hp
theorem Cs.symm {p q : List Int} (h : PN n p) (c : Cs n gens p q) : Cs n gens q p := by
  refine ⟨h, ?_⟩
  have h1 := c.2.inv hp
  rw [inv_comp_eq c.1 h.inv, inv_inv h] at h1
  exact h1
theorem Cs.trans {p q r : List Int} (h : PN n p) (c : Cs n gens p q) (d : Cs n gens q r) : Cs n gens p r := by
  refine ⟨d.1, ?_⟩
  have h1 := Grp.comp hp d.2 c.2
  have e : comp (comp r (inv q)) (comp q (inv p)) = comp r (inv p) := by
    rw [comp_assoc d.1 c.1.inv, ← comp_assoc c.1.inv c.1, inv_comp c.1, id_comp h.inv]
  rwa [e] at h1
theorem Cs.mul {p q g : List Int} (c : Cs n gens p q) (hg : Grp n gens g) : Cs n gens p (comp g q) := by
  have hgp := hg.pn hp
  refine ⟨hgp.comp c.1, ?_⟩
  rw [comp_assoc hgp c.1]
  exact Grp.comp hp hg c.2
variable {G : Gens} {T : Rows} (h : Chain n gens G T) (hn : 0 < n)
include h hn
theorem Chain.putV_cs {p : List Int} {i : Nat} (hi : i < n) {m : List Int} (hm : Cs n gens p m) {v : Int} (hv : v ∈ cho n T i m) : Cs n gens p (PM.putV T i m v) :=
  Cs.mul hp hm (h.row_grp hn hp hi (cho_pre hm.1 hv).2.2.2.2.1)
theorem Chain.cho_cs {p : List Int} (hpp : PN n p) {i : Nat} (hi : i < n) {m q : List Int} (hm : Cs n gens p m) (hq : Cs n gens p q) (ha : Alike i q m) : at_ q (i : Int) ∈ cho n T i m := by
  have hpn := hm.1
  have hqn := hq.1
  have hg : Grp n gens (comp q (PM.inv m)) := (Cs.trans hp hpn (Cs.symm hp hpp hm) hq).2
  have hr := hqn.rng (x := (i : Int)) (by omega) (by omega)
  have hir := (hpn.inv).rng hr.1 hr.2
  refine PM.mem_cho.2 ⟨at_ (PM.inv m) (at_ q (i : Int)), ⟨hir, ?_⟩, at_inv' hpn hr.1 hr.2⟩
  refine (h.row_iff hn hp hi hir.1 hir.2).2 ⟨_, hg, fun x x0 x1 => ?_, ?_⟩
  · rw [at_comp x0 (by rw [hqn.1]; omega), ha x x0 x1, at_inv hpn x0 (by omega)]
  · rw [at_comp (by omega) (by rw [hqn.1]; omega)]
/-- the least of a coset, from a level on -/
theorem Chain.cosmin_aux {p : List Int} (hpp : PN n p) : ∀ (k i : Nat) (m : List Int), i + k = n → Cs n gens p m →
    Cs n gens p (desc T n (fun _ _ => 0) k i m) ∧ Alike i (desc T n (fun _ _ => 0) k i m) m ∧ ∀ q, Cs n gens p q → Alike i q m → q = desc T n (fun _ _ => 0) k i m ∨ Lex n (desc T n (fun _ _ => 0) k i m) q
  | 0, i, m, hi, hm => by
    refine ⟨hm, fun _ _ _ => rfl, fun q hq ha => Or.inl ?_⟩
    show q = m
    exact ext_at (by rw [hq.1.1, hm.1.1]) fun x x0 x1 => ha x x0 (by rw [hq.1.1] at x1; omega)
  | k + 1, i, m, hi, hm => by
    have hin : i < n := by omega
    have hl := cho_len (T := T) (i := i) hm.1
    have hpos : 0 < (cho n T i m).length := by rw [hl]; exact cntR_pos h.inv.wf hin
    obtain ⟨v, hv⟩ : ∃ v, v = (cho n T i m).getD 0 0 := ⟨_, rfl⟩
    have hvm : v ∈ cho n T i m := by rw [hv, List.getD_eq_getElem?_getD, List.getElem?_eq_getElem hpos]; exact List.getElem_mem hpos
    have hmin : ∀ u ∈ cho n T i m, v ≤ u := by
      intro u hu
      obtain ⟨j, hj, rfl⟩ := List.getElem_of_mem hu
      have hasc : Asc (cho n T i m) := choO_asc _ _
      have e : v = (cho n T i m)[0] := by rw [hv, List.getD_eq_getElem?_getD, List.getElem?_eq_getElem hpos]; rfl
      rw [e]
      by_cases h0 : j = 0
      · subst h0; exact Int.le_refl _
      · exact Int.le_of_lt (List.pairwise_iff_getElem.1 hasc 0 j hpos hj (by omega))
    have hd : desc T n (fun _ _ => 0) (k + 1) i m = desc T n (fun _ _ => 0) k (i + 1) (PM.putV T i m v) := by rw [hv]; rfl
    rw [hd]
    obtain ⟨-, p2, p3⟩ := putV_pn h.inv.wf hin hm.1 hvm
    obtain ⟨a, b, c⟩ := Chain.cosmin_aux hpp k (i + 1) _ (by omega) (h.putV_cs hp hn hin hm hvm)
    refine ⟨a, fun x x0 x1 => (b x x0 (by omega)).trans (p2 x x0 x1), fun q hq ha => ?_⟩
    have hqv := h.cho_cs hp hn hpp hin hm hq ha
    by_cases e : at_ q (i : Int) = v
    · refine c q hq fun x x0 x1 => ?_
      by_cases hx : x < i
      · rw [ha x x0 hx, p2 x x0 hx]
      · have : x = (i : Int) := by omega
        subst this
        rw [e, p3]
    · refine Or.inr ⟨i, hin, fun x x0 x1 => ?_, ?_⟩
      · rw [b x x0 (by omega), p2 x x0 x1, ha x x0 x1]
      · rw [b (i : Int) (by omega) (by omega), p3]
        have := hmin _ hqv
        omega
theorem Chain.cosmin {p : List Int} (hpp : PN n p) : Cs n gens p (desc T n (fun _ _ => 0) n 0 p) ∧ ∀ q, Cs n gens p q → q = desc T n (fun _ _ => 0) n 0 p ∨ Lex n (desc T n (fun _ _ => 0) n 0 p) q := by
  obtain ⟨a, b, c⟩ := h.cosmin_aux hp hn hpp n 0 p (by omega) (Cs.refl hpp)
  exact ⟨a, fun q hq => c q hq fun x x0 x1 => by omega⟩
end
theorem Lex.asymm {n : Nat} {p q : List Int} (h : Lex n p q) (k : Lex n q p) : False := by
  obtain ⟨i, hi, ha, hl⟩ := h
  obtain ⟨j, hj, hb, hm⟩ := k
  by_cases hij : i < j
  · have := hb (i : Int) (by omega) (by omega); omega
  · by_cases hji : j < i
    · have := ha (j : Int) (by omega) (by omega); omega
    · have : i = j := by omega
      subst this; omega
open Classical in
/-- the least permutation of the coset of p -/
noncomputable def cosM (n : Nat) (gens : List (List Int)) (p : List Int) : List Int := desc (chainR n gens) n (fun _ _ => 0) n 0 p
section
variable {n : Nat} {gens : List (List Int)} {G : Gens} {T : Rows} (h : Chain n gens G T) (hn : 0 < n) (hp : ∀ g ∈ gens, PN n g)
include h hn hp
theorem Chain.cosM_ok {p : List Int} (hpp : PN n p) : Cs n gens p (cosM n gens p) ∧ ∀ q, Cs n gens p q → q = cosM n gens p ∨ Lex n (cosM n gens p) q := by
  obtain ⟨G', h'⟩ := h.chainR
  exact h'.cosmin hp hn hpp
theorem Chain.cosM_eq {p : List Int} (hpp : PN n p) : desc T n (fun _ _ => 0) n 0 p = cosM n gens p := by
  obtain ⟨a, b⟩ := h.cosmin hp hn hpp
  obtain ⟨c, d⟩ := h.cosM_ok hn hp hpp
  rcases b _ c with e | e
  · exact e.symm
  · rcases d _ a with f | f
    · exact f
    · exact absurd (Lex.asymm e f) id
/-- one coset, one least permutation -/
theorem Chain.cosM_iff {p q : List Int} (hpp : PN n p) (hq : PN n q) : cosM n gens p = cosM n gens q ↔ Cs n gens p q := by
  obtain ⟨a, b⟩ := h.cosM_ok hn hp hpp
  obtain ⟨c, d⟩ := h.cosM_ok hn hp hq
  constructor
  · intro e
    rw [e] at a
    exact Cs.trans hp hpp a (Cs.symm hp hq c)
  · intro k
    have c' := Cs.trans hp hpp k c
    have a' := Cs.trans hp hq (Cs.symm hp hpp k) a
    rcases b _ c' with e | e
    · exact e.symm
    · rcases d _ a' with f | f
      · exact f
      · exact absurd (Lex.asymm e f) id
theorem Chain.cosM_pn {p : List Int} (hpp : PN n p) : PN n (cosM n gens p) := (h.cosM_ok hn hp hpp).1.1
theorem Chain.cosM_idem {p : List Int} (hpp : PN n p) : cosM n gens (cosM n gens p) = cosM n gens p :=
  ((h.cosM_iff hn hp hpp (h.cosM_pn hn hp hpp)).2 (h.cosM_ok hn hp hpp).1).symm
end
theorem Lex.total {n : Nat} {p q : List Int} (hp : PN n p) (hq : PN n q) : p = q ∨ Lex n p q ∨ Lex n q p := by
  have key : ∀ i, i ≤ n → Alike i p q ∨ Lex n p q ∨ Lex n q p := by
    intro i
    induction i with
    | zero => intro _; exact Or.inl fun x x0 x1 => by omega
    | succ i ih =>
      intro hi
      rcases ih (by omega) with ha | hl | hl
      · by_cases e : at_ p (i : Int) = at_ q (i : Int)
        · refine Or.inl fun x x0 x1 => ?_
          by_cases hx : x < i
          · exact ha x x0 hx
          · have : x = (i : Int) := by omega
            subst this; exact e
        · by_cases l : at_ p (i : Int) < at_ q (i : Int)
          · exact Or.inr (Or.inl ⟨i, by omega, ha, l⟩)
          · exact Or.inr (Or.inr ⟨i, by omega, fun x x0 x1 => (ha x x0 x1).symm, by omega⟩)
      · exact Or.inr (Or.inl hl)
      · exact Or.inr (Or.inr hl)
  rcases key n (Nat.le_refl _) with ha | hl
  · exact Or.inl (ext_at (by rw [hp.1, hq.1]) fun x x0 x1 => ha x x0 (by rw [hp.1] at x1; exact x1))
  · exact Or.inr hl
theorem Lex.trans {n : Nat} {p q r : List Int} (h : Lex n p q) (k : Lex n q r) : Lex n p r := by
  obtain ⟨i, hi, ha, hl⟩ := h
  obtain ⟨j, hj, hb, hm⟩ := k
  by_cases hij : i ≤ j
  · refine ⟨i, hi, fun x x0 x1 => (ha x x0 x1).trans (hb x x0 (by omega)), ?_⟩
    by_cases e : i = j
    · subst e; omega
    · rw [← hb (i : Int) (by omega) (by omega)]; exact hl
  · exact ⟨j, hj, fun x x0 x1 => (ha x x0 (by omega)).trans (hb x x0 x1), by rw [ha (j : Int) (by omega) (by omega)]; exact hm⟩
/-- the identity is the least of all -/
theorem pts_least {n : Nat} {q : List Int} (hq : PN n q) : ¬ Lex n q (pts n) := by
  rintro ⟨i, hi, ha, hl⟩
  rw [at_pts (by omega) (by omega)] at hl
  have hr := hq.rng (x := (i : Int)) (by omega) (by omega)
  have h1 := ha (at_ q (i : Int)) hr.1 hl
  rw [at_pts hr.1 hr.2] at h1
  have := hq.inj hr.1 hr.2 (by omega) (by omega) h1
  omega
/-- all that lies in the cosets of a list -/
def cosAll (n : Nat) (T : Rows) (L : List (List Int)) : List (List Int) := L.flatMap fun f => (mems T n n).map fun a => comp a f
theorem cosAll_len {n : Nat} {TA : Rows} (L : List (List Int)) : (cosAll n TA L).length = L.length * ordM TA n n := by
  have hl : (mems TA n n).length = ordM TA n n := mems_len ..
  unfold cosAll
  induction L with
  | nil => simp
  | cons x L ih => rw [List.flatMap_cons, List.length_append, List.length_map, hl, ih, List.length_cons, Nat.succ_mul]; omega
section
variable {n : Nat} {A B : List (List Int)} {GA GB : Gens} {TA TB : Rows} (hA : Chain n A GA TA) (hB : Chain n B GB TB) (hn : 0 < n) (pA : ∀ g ∈ A, PN n g) (pB : ∀ g ∈ B, PN n g) (sub : ∀ g ∈ A, Grp n B g)
include hA hn pA
theorem mem_cosAll {L : List (List Int)} (hL : ∀ x ∈ L, PN n x) {q : List Int} : q ∈ cosAll n TA L ↔ ∃ x ∈ L, Cs n A x q := by
  unfold cosAll
  rw [List.mem_flatMap]
  constructor
  · rintro ⟨x, hx, hq⟩
    obtain ⟨a, ha, rfl⟩ := List.mem_map.1 hq
    have hg := (hA.mems_iff hn pA).1 ha
    exact ⟨x, hx, Cs.mul pA (Cs.refl (hL x hx)) hg⟩
  · rintro ⟨x, hx, hc⟩
    refine ⟨x, hx, List.mem_map.2 ⟨comp q (inv x), (hA.mems_iff hn pA).2 hc.2, ?_⟩⟩
    rw [comp_assoc hc.1 (hL x hx).inv, inv_comp (hL x hx), comp_id hc.1]
theorem cosAll_nodup {L : List (List Int)} (hL : ∀ x ∈ L, PN n x) (hd : L.Pairwise fun x y => ¬ Cs n A x y) : (cosAll n TA L).Nodup := by
  unfold cosAll List.Nodup
  rw [List.pairwise_flatMap]
  refine ⟨fun x hx => ?_, ?_⟩
  · rw [List.pairwise_map]
    refine List.Pairwise.imp_of_mem (R := fun a b => a ≠ b) (fun {a b} ha hb hab e => hab ?_) (mems_nodup hA.inv.wf n (Nat.le_refl _))
    have h1 := ((hA.mems_iff hn pA).1 ha).pn pA
    have h2 := ((hA.mems_iff hn pA).1 hb).pn pA
    exact comp_right_cancel h1 h2 (hL x hx) e
  · refine List.Pairwise.imp_of_mem (fun {x y} hx hy hxy p hp q hq e => hxy ?_) hd
    subst e
    obtain ⟨a, ha, rfl⟩ := List.mem_map.1 hp
    obtain ⟨b, hb, e2⟩ := List.mem_map.1 hq
    have c1 : Cs n A x (comp a x) := Cs.mul pA (Cs.refl (hL x hx)) ((hA.mems_iff hn pA).1 ha)
    have c2 : Cs n A y (comp b y) := Cs.mul pA (Cs.refl (hL y hy)) ((hA.mems_iff hn pA).1 hb)
    rw [e2] at c2
    exact Cs.trans pA (hL x hx) c1 (Cs.symm pA (hL y hy) c2)
include hB pB
theorem cos_ge {L : List (List Int)} (hL : ∀ x ∈ L, PN n x) (hc : ∀ q, Grp n B q → ∃ x ∈ L, Cs n A x q) : ordM TB n n ≤ L.length * ordM TA n n := by
  rw [← cosAll_len (TA := TA) L]
  exact hB.order_ge hn pB fun q hq => (mem_cosAll hA hn pA hL).2 (hc q hq)
include sub
theorem cos_le {L : List (List Int)} (hL : ∀ x ∈ L, Grp n B x) (hd : L.Pairwise fun x y => ¬ Cs n A x y) : L.length * ordM TA n n ≤ ordM TB n n := by
  have hpn : ∀ x ∈ L, PN n x := fun x hx => (hL x hx).pn pB
  rw [← cosAll_len (TA := TA) L]
  refine hB.order_le hn pB (cosAll_nodup hA hn pA hpn hd) fun q hq => ?_
  obtain ⟨x, hx, hc⟩ := (mem_cosAll hA hn pA hpn).1 hq
  have h1 := Grp.comp pB (Grp.mono pB sub hc.2) (hL x hx)
  rwa [comp_assoc hc.1 (hpn x hx).inv, inv_comp (hpn x hx), comp_id hc.1] at h1
end
section
variable {n : Nat} {A : List (List Int)} {GA : Gens} {TA : Rows} (hA : Chain n A GA TA) (hn : 0 < n) (pA : ∀ g ∈ A, PN n g)
include hA hn pA
theorem cosM_id : cosM n A (pts n) = pts n := by
  obtain ⟨a, b⟩ := hA.cosM_ok hn pA (PN.id n)
  rcases b _ (Cs.refl (PN.id n)) with e | e
  · exact e.symm
  · exact absurd e (pts_least a.1)
end
/-- one representative more, where its coset is new -/
def addC (p : List Int) (L : List (List Int)) : List (List Int) := if p ∈ L then L else L ++ [p]
noncomputable def stepC (n : Nat) (A : List (List Int)) (x : List Int) (bs L : List (List Int)) : List (List Int) := bs.foldl (fun L b => addC (cosM n A (comp x b)) L) L
noncomputable def bC (n : Nat) (A B : List (List Int)) : Nat → Nat → List (List Int) → List (List Int)
  | 0, _, L => L
  | f + 1, i, L => if i < L.length then bC n A B f (i + 1) (stepC n A (L.getD i []) B L) else L
/-- what holds of the representatives found so far -/
structure InC (n : Nat) (A B L : List (List Int)) : Prop where
  nd : L.Nodup
  grp : ∀ x ∈ L, Grp n B x
  min : ∀ x ∈ L, cosM n A x = x
section
variable {n : Nat} {A B : List (List Int)} {GA GB : Gens} {TA TB : Rows} (hA : Chain n A GA TA) (hB : Chain n B GB TB) (hn : 0 < n) (pA : ∀ g ∈ A, PN n g) (pB : ∀ g ∈ B, PN n g) (sub : ∀ g ∈ A, Grp n B g)
include hA hn pA
theorem InC.start : InC n A B [pts n] := ⟨by simp, fun x hx => by rw [List.mem_singleton.1 hx]; exact .id, fun x hx => by rw [List.mem_singleton.1 hx]; exact cosM_id hA hn pA⟩
include pB
theorem InC.apart {L : List (List Int)} (h : InC n A B L) : L.Pairwise fun x y => ¬ Cs n A x y := by
  refine List.Pairwise.imp_of_mem (R := fun a b => a ≠ b) (fun {x y} hx hy hxy hc => hxy ?_) h.nd
  have h1 := (h.grp x hx).pn pB
  have h2 := (h.grp y hy).pn pB
  have := (hA.cosM_iff hn pA h1 h2).2 hc
  rwa [h.min x hx, h.min y hy] at this
include sub
theorem InC.add {L : List (List Int)} (h : InC n A B L) {p : List Int} (hp : Grp n B p) : InC n A B (addC (cosM n A p) L) := by
  unfold addC
  by_cases hm : cosM n A p ∈ L
  · rw [if_pos hm]; exact h
  · rw [if_neg hm]
    have hpp := hp.pn pB
    have hc := (hA.cosM_ok hn pA hpp).1
    refine ⟨List.nodup_append.2 ⟨h.nd, by simp, fun a ha b hb e => hm ?_⟩, fun x hx => ?_, fun x hx => ?_⟩
    · rw [← List.mem_singleton.1 hb, ← e]; exact ha
    · rcases List.mem_append.1 hx with hx | hx
      · exact h.grp x hx
      · rw [List.mem_singleton.1 hx]
        have h1 := Grp.comp pB (Grp.mono pB sub hc.2) hp
        rwa [comp_assoc hc.1 hpp.inv, inv_comp hpp, comp_id hc.1] at h1
    · rcases List.mem_append.1 hx with hx | hx
      · exact h.min x hx
      · rw [List.mem_singleton.1 hx]; exact hA.cosM_idem hn pA hpp
theorem InC.step {x : List Int} (hx : Grp n B x) : ∀ (bs : List (List Int)) (L : List (List Int)), (∀ b ∈ bs, b ∈ B) → InC n A B L → InC n A B (stepC n A x bs L)
  | [], _, _, h => h
  | b :: bs, L, hb, h => by
    show InC n A B (stepC n A x bs (addC (cosM n A (comp x b)) L))
    exact InC.step hx bs _ (fun c hc => hb c (List.mem_cons_of_mem _ hc)) (h.add hA hn pA pB sub (Grp.comp pB hx (.gen pB (hb b (by simp)))))
include hB
theorem InC.len {L : List (List Int)} (h : InC n A B L) : L.length * ordM TA n n ≤ ordM TB n n := cos_le hA hB hn pA pB sub h.grp (h.apart hA hn pA pB)
end
theorem addC_pre (p : List Int) (L : List (List Int)) : ∃ l, addC p L = L ++ l := by
  unfold addC
  by_cases h : p ∈ L
  · exact ⟨[], by rw [if_pos h]; simp⟩
  · exact ⟨[p], by rw [if_neg h]⟩
theorem stepC_pre (n : Nat) (A : List (List Int)) (x : List Int) : ∀ (bs L : List (List Int)), ∃ l, stepC n A x bs L = L ++ l
  | [], L => ⟨[], by simp [stepC]⟩
  | b :: bs, L => by
    obtain ⟨l1, h1⟩ := addC_pre (cosM n A (comp x b)) L
    obtain ⟨l2, h2⟩ := stepC_pre n A x bs (addC (cosM n A (comp x b)) L)
    refine ⟨l1 ++ l2, ?_⟩
    show stepC n A x bs (addC (cosM n A (comp x b)) L) = _
    rw [h2, h1, List.append_assoc]
theorem stepC_mem (n : Nat) (A : List (List Int)) (x : List Int) : ∀ (bs L : List (List Int)), ∀ b ∈ bs, cosM n A (comp x b) ∈ stepC n A x bs L
  | b :: bs, L, c, hc => by
    show _ ∈ stepC n A x bs (addC (cosM n A (comp x b)) L)
    rcases List.mem_cons.1 hc with rfl | hc
    · obtain ⟨l, h⟩ := stepC_pre n A x bs (addC (cosM n A (comp x c)) L)
      rw [h]
      refine List.mem_append_left _ ?_
      unfold addC
      by_cases hm : cosM n A (comp x c) ∈ L
      · rw [if_pos hm]; exact hm
      · rw [if_neg hm]; simp
    · exact stepC_mem n A x bs _ c hc
section
variable {n : Nat} {A B : List (List Int)} {GA GB : Gens} {TA TB : Rows} (hA : Chain n A GA TA) (hB : Chain n B GB TB) (hn : 0 < n) (pA : ∀ g ∈ A, PN n g) (pB : ∀ g ∈ B, PN n g) (sub : ∀ g ∈ A, Grp n B g)
include hA hB hn pA pB sub
theorem InC.le {L : List (List Int)} (h : InC n A B L) : L.length ≤ ordM TB n n := by
  have h1 := h.len hA hB hn pA pB sub
  have h2 := (ordM_rng hA.inv.wf n (Nat.le_refl _)).1
  exact Nat.le_trans (Nat.le_mul_of_pos_right _ h2) h1
theorem bC_ok : ∀ (f i : Nat) (L : List (List Int)), f + i = ordM TB n n + 1 → InC n A B L → (∀ x ∈ L.take i, ∀ b ∈ B, cosM n A (comp x b) ∈ L) →
    InC n A B (bC n A B f i L) ∧ (∃ l, bC n A B f i L = L ++ l) ∧ ∀ x ∈ bC n A B f i L, ∀ b ∈ B, cosM n A (comp x b) ∈ bC n A B f i L
  | 0, i, L, hi, h, hc => by
    have hl := h.le hA hB hn pA pB sub
    rw [List.take_of_length_le (by omega)] at hc
    exact ⟨h, ⟨[], by simp [bC]⟩, hc⟩
  | f + 1, i, L, hi, h, hc => by
    by_cases hlt : i < L.length
    · have hd : bC n A B (f + 1) i L = bC n A B f (i + 1) (stepC n A (L.getD i []) B L) := by
        show (if i < L.length then _ else L) = _
        rw [if_pos hlt]
      have hg : L.getD i [] = L[i] := by rw [List.getD_eq_getElem?_getD, List.getElem?_eq_getElem hlt]; rfl
      rw [hg] at hd
      have hs := h.step hA hn pA pB sub (h.grp L[i] (List.getElem_mem hlt)) B L (fun b hb => hb)
      obtain ⟨l, hl⟩ := stepC_pre n A L[i] B L
      obtain ⟨a, ⟨l2, b⟩, c⟩ := bC_ok f (i + 1) (stepC n A L[i] B L) (by omega) hs (by
        intro x hx b hb
        have ht : (stepC n A L[i] B L).take (i + 1) = L.take (i + 1) := by rw [hl, List.take_append_of_le_length (by omega)]
        rw [ht, List.take_succ_eq_append_getElem hlt] at hx
        rcases List.mem_append.1 hx with hx | hx
        · rw [hl]; exact List.mem_append_left _ (hc x hx b hb)
        · rw [List.mem_singleton.1 hx]
          exact stepC_mem n A L[i] B L b hb)
      rw [hd]
      exact ⟨a, ⟨l ++ l2, by rw [b, hl, List.append_assoc]⟩, c⟩
    · have hd : bC n A B (f + 1) i L = L := by
        show (if i < L.length then _ else L) = _
        rw [if_neg hlt]
      rw [hd]
      rw [List.take_of_length_le (by omega)] at hc
      exact ⟨h, ⟨[], by simp⟩, hc⟩
/-- the representatives -/
theorem bC_reps : InC n A B (bC n A B (ordM TB n n + 1) 0 [pts n]) ∧ (bC n A B (ordM TB n n + 1) 0 [pts n]).length * ordM TA n n = ordM TB n n := by
  obtain ⟨a, ⟨l, b⟩, c⟩ := bC_ok hA hB hn pA pB sub (ordM TB n n + 1) 0 [pts n] (by omega) (InC.start hA hn pA) (by simp)
  obtain ⟨R, hR⟩ : ∃ R, R = bC n A B (ordM TB n n + 1) 0 [pts n] := ⟨_, rfl⟩
  rw [← hR] at a b c ⊢
  refine ⟨a, Nat.le_antisymm (a.len hA hB hn pA pB sub) (cos_ge hA hB hn pA pB (fun x hx => (a.grp x hx).pn pB) fun q hq => ?_)⟩
  have key : ∀ q, Grp n B q → PN n q ∧ cosM n A q ∈ R := by
    intro q hq
    have hmul : ∀ g ∈ B, ∀ p, (PN n p ∧ cosM n A p ∈ R) → (PN n (comp p g) ∧ cosM n A (comp p g) ∈ R) := by
      rintro g hg p ⟨hp, hm⟩
      have hgp := pB g hg
      refine ⟨hp.comp hgp, ?_⟩
      have hx := c _ hm g hg
      have hxp := hA.cosM_pn hn pA hp
      have e : cosM n A (comp (cosM n A p) g) = cosM n A (comp p g) := (hA.cosM_iff hn pA (hxp.comp hgp) (hp.comp hgp)).2 (Cs.right hxp hgp (Cs.symm pA hp (hA.cosM_ok hn pA hp).1))
      rwa [e] at hx
    induction hq with
    | id => exact ⟨PN.id n, by rw [cosM_id hA hn pA, b]; simp⟩
    | mul _ hg ih => exact hmul _ hg _ ih
    | div _ hg ih => exact closed_div (S := fun p => PN n p ∧ cosM n A p ∈ R) (fun _ h => h.1) (pB _ hg) (hmul _ hg) _ ih
  obtain ⟨k1, k2⟩ := key q hq
  exact ⟨_, k2, Cs.symm pA k1 (hA.cosM_ok hn pA k1).1⟩
end
end PM

namespace Go.Proofs.Ytbediokigibdlaa
open Go.RowKit
set_option maxRecDepth 10000

/-- what the program's below finds beside the count, so far: m is the least of l -/
def IsMn (l : List Int) (m : Int) : Prop := (l = [] ∧ m = -1) ∨ (m ∈ l ∧ ∀ x ∈ l, m ≤ x)
theorem IsMn.snoc_lt {l : List Int} {m x : Int} (h : IsMn l m) (hx : m < 0 ∨ x < m) (h0 : ∀ y ∈ l, 0 ≤ y) : IsMn (l ++ [x]) x := by
  refine Or.inr ⟨by simp, fun y hy => ?_⟩
  rcases List.mem_append.1 hy with hy | hy
  · rcases h with ⟨rfl, -⟩ | ⟨h1, h2⟩
    · cases hy
    · have := h2 y hy; have := h0 m h1; omega
  · rw [List.mem_singleton.1 hy]; exact Int.le_refl _
theorem IsMn.snoc_ge {l : List Int} {m x : Int} (h : IsMn l m) (hm : ¬ m < 0) (hx : ¬ x < m) : IsMn (l ++ [x]) m := by
  rcases h with ⟨rfl, h2⟩ | ⟨h1, h2⟩
  · omega
  · refine Or.inr ⟨List.mem_append_left _ h1, fun y hy => ?_⟩
    rcases List.mem_append.1 hy with hy | hy
    · exact h2 y hy
    · rw [List.mem_singleton.1 hy]; omega
theorem IsMn.end_ {l C : List Int} {m : Int} (h : IsMn l m) (hC : PM.Asc C) (hne : C ≠ []) (he : (l.mergeSort fun x y => decide (x ≤ y)) = C) : m = C.getD 0 0 := by
  have hp : l.Perm C := by rw [← he]; exact (List.mergeSort_perm _ _).symm
  rcases h with ⟨rfl, -⟩ | ⟨h1, h2⟩
  · exact absurd (List.nil_perm.1 hp) hne
  · cases C with
    | nil => exact absurd rfl hne
    | cons c C =>
      show m = c
      have h3 := h2 c (hp.mem_iff.2 (by simp))
      have h4 : c ≤ m := by
        rcases List.mem_cons.1 (hp.mem_iff.1 h1) with e | e
        · omega
        · exact Int.le_of_lt ((List.pairwise_cons.1 hC).1 m e)
      omega
set_option maxHeartbeats 4000000 in
theorem walkLeast_any {e : TypeId} {B : Nat} {L : Lay} {gv : Nat → Value} {n : Nat} {G : PM.Gens} {T : PM.Rows} {M F : List Nat} (w : World) (hC : Ch e B w L gv n G T M F) (hw : PM.WF n T) (hT : L.oT = 2) (b i : Nat) (hi : i < n) (v : Value) (m : List Int) (fm : List Nat)
    (hb : Blk w b [.pointer (some ⟨L.g, 0, none⟩), .int .i64 i, v]) (hv : Rd w v m fm) (hm : PM.PN n m) :
    Calls Try.prog 96 #[.pointer (some ⟨b, 0, none⟩), .int .i64 (-1)] w fun e w' => ∃ c : Int, e = .returned (.tuple #[.int .i64 c, .int .i64 ((PM.cho n T i m).getD 0 0)]) ∧ Only [] w w' := by
  have HcV := Lib.hid (values_any w hC hT b i hi v m fm hb hv hm)
  obtain ⟨C, hCd⟩ : ∃ C, C = PM.cho n T i m := ⟨_, rfl⟩
  have hn20 := hC.le
  have hAs : PM.Asc C := by rw [hCd]; exact PM.choO_asc _ _
  have hCb : ∀ x ∈ C, I64 x := fun x hx => by rw [hCd] at hx; have := PM.cho_pre hm hx; unfold I64; omega
  have hC0 : ∀ x ∈ C, 0 ≤ x := fun x hx => by rw [hCd] at hx; exact (PM.cho_pre hm hx).1
  have hCl : C.length ≤ 1000 := by rw [hCd, PM.cho_len hm]; have := PM.cntR_le n T i; omega
  have hCne : C ≠ [] := fun hc => by
    have h1 := PM.cho_len (T := T) (i := i) hm
    rw [← hCd, hc] at h1
    have h2 := PM.cntR_pos hw hi
    simp at h1; omega
  have hgC : ∀ x, (gV m (orb n T i) x).isSome = decide (x ∈ C) := fun x => by
    rw [hCd]
    by_cases hx : x ∈ PM.cho n T i m
    · rw [gV_yes hx]; simp [hx]
    · rw [gV_no hx]; simp [hx]
  rw [← hCd]
  have HAs := Lib.hid hAs
  have HCb := Lib.hid hCb
  have HC0 := Lib.hid hC0
  have HCne := Lib.hid hCne
  have HgC := Lib.hid hgC
  clear hC hm hb hv hw hAs hCb hCne hgC hCd hC0
  go_enter Try.func96, Try.ntmps96
  go_wp2_with (first
    | (go_at_call 110; (with_reducible refine (HcV.out).mono ?_); rintro en w1 ⟨K, rfl, hK, hM, t1⟩; obtain ⟨D, hown, hg⟩ := hM)
    | (at_range; refine wpList_range_own _ rfl _ 110 rfl 2 2 Try.lawI64 Try.underlying110 _ K 1000 D rfl hown ?_; intro w0 hrg0 hg0 hs0)
    | fail "no arm")
  go_frame
  have hKl := hown.lt
  have k01 : Only [] w1 w0 := (Only.refl _ _).grown hg0 (by intro j hj; cases hj)
  have kw0 : Only [] w w0 := t1.trans k01
  have hl0 : KL C (Go.Maps.has D) [] := ⟨List.nodup_nil, fun x hx => by
      rw [(hg x hx).1, HgC.out]
      by_cases hm : x ∈ C <;> simp [hm], by simp, fun x hx hl => by rw [(hg x hx).1, HgC.out] at hl; simpa using hl⟩
  clear hg hg0 hown t1 k01
  go_loopw [6, 7] (fun c o wr => ∃ (left : Lit → Bool) (cnt : Nat) (l : List Int) (nx cc : Int), wr.ranges Try.prog 2 (plainElem Try.prog 2) K w1.heap.size 1000 D left cnt ∧ c = .int .i64 cc ∧ o = .int .i64 nx ∧ Hid (IsMn l nx) ∧ KL C left l ∧ (-1 ≤ nx ∧ nx ≤ 9223372036854775807) ∧ Only [] w wr)
    (fun _ _ wr => wr.rangeLeft K w1.heap.size)
  case atStart => exact ⟨_, _, [], -1, 0, hrg0, rfl, rfl, Lib.hid (Or.inl ⟨rfl, rfl⟩), hl0, by omega, kw0⟩
  case round =>
    obtain ⟨W2, hnew⟩ : ∃ W, W = wr := ⟨_, rfl⟩
    subst hnew
    obtain ⟨left, cnt, l, nx, cc, hrg, rfl, rfl, hmn, hKL, hnx, hO⟩ := hrel
    obtain ⟨nx1, nx2⟩ := hnx
    have hl00 : ∀ y ∈ l, 0 ≤ y := fun y hy => HC0.out y ((hKL.iff y (hKL.big y hy)).1 hy).1
    have Hl0 := Lib.hid hl00
    clear hl00
    go_wp2_with (first
      | (at_next; refine wpList_next_ranges_ii _ rfl _ rfl 2 2 .i64 .i64 Try.lawI64 Try.underlying2 Try.underlying2 K w1.heap.size 1000 _ _ _ rfl hrg ?_ ?_)
      | fail "no arm")
    · intro _ hl0
      have hfin := hKL.end_ hl0 HAs.out HCb.out
      have hce := hmn.out.end_ HAs.out HCne.out hfin
      have Hce := Lib.hid hce
      clear hce hfin hl0
      go_wp2
      exact bodyPost_ret (v := .tuple #[.int .i64 cc, .int .i64 nx]) (by simp [results, Try.results96, go_sem]) rfl ⟨cc, by rw [← Hce.out], hO⟩
    · intro x c w2 cnt1 hwx hwc hlx hat hrg1 hlt hg1 hs1 hen
      have hxI : I64 x := by have h9 := hwx; simp [Lit.wf, IntKind.min, IntKind.max, IntKind.signed, IntKind.bits] at h9; unfold I64; omega
      have hx0 : 0 ≤ x := HC0.out x (hKL.dom x hxI hlx)
      have k2 : Only [w1.heap.size] W2 w2 := (Only.refl _ _).grown hg1 (by intro j hj _; injection hj with hj; subst hj; simp)
      have hO2 : Only [] w w2 := hO.then_ k2 (fun z hz hl => by simp at hz; have := kw0.size; omega)
      have hK2 := hKL.step hxI hlx
      have HK2 := Lib.hid hK2
      have Hs1 := Lib.hid hs1
      have hxb := hxI
      unfold I64 at hxb
      have hx1 : -1 < x := by omega
      have hx2 : ¬ x < -1 := by omega
      clear hs1 hKL hxI hat hwx hwc hlx hK2
      by_cases h1 : nx < 0
      · have Hmn := Lib.hid (hmn.out.snoc_lt (x := x) (Or.inl h1) Hl0.out)
        go_wp2_with fail
        all_goals exact ⟨⟨_, cnt1, l ++ [x], x, _, hrg1, rfl, rfl, Hmn, HK2.out, by omega, hO2⟩, by rw [hrg1.left_eq, hrg.left_eq]; exact hlt⟩
      · by_cases h2 : x < nx
        · have Hmn := Lib.hid (hmn.out.snoc_lt (x := x) (Or.inr h2) Hl0.out)
          go_wp2_with fail
          all_goals exact ⟨⟨_, cnt1, l ++ [x], x, _, hrg1, rfl, rfl, Hmn, HK2.out, by omega, hO2⟩, by rw [hrg1.left_eq, hrg.left_eq]; exact hlt⟩
        · have Hmn := Lib.hid (hmn.out.snoc_ge (x := x) h1 h2)
          go_wp2_with fail
          all_goals exact ⟨⟨_, cnt1, l ++ [x], nx, _, hrg1, rfl, rfl, Hmn, HK2.out, by omega, hO2⟩, by rw [hrg1.left_eq, hrg.left_eq]; exact hlt⟩
set_option maxHeartbeats 4000000 in
theorem finish_any {B : Nat} {L : Lay} {gv : Nat → Value} {n : Nat} {G : PM.Gens} {T : PM.Rows} {M F : List Nat} (w : World) (hC : Ch 36 B w L gv n G T M F) (hw : PM.WF n T) (hT : L.oT = 2) (b : Nat) (v : Value) (p : List Int) (fp : List Nat)
    (hb : Blk w b [.pointer (some ⟨L.g, 0, none⟩), .int .i64 (0 : Nat), v]) (hv : Rd w v p fp) (hp : PM.PN n p) (hbM0 : b ∉ M) (hbF0 : b ∉ F) (hbf : b ∉ fp) :
    Calls Try.prog 63 #[.pointer (some ⟨b, 0, none⟩)] w fun e w' => ∃ v' f', e = .returned v' ∧ Rd w' v' (PM.desc T n (fun _ _ => 0) n 0 p) f' ∧ Fresh w.heap.size w' f' ∧ Only [b] w w' := by
  have hn : 0 < n := hC.pos
  have hn20 : n ≤ 20 := hC.le
  obtain ⟨R, hR⟩ : ∃ R, R = PM.desc T n (fun _ _ => 0) n 0 p := ⟨_, rfl⟩
  rw [← hR]
  have HR0 : Hid (R = PM.desc T n (fun _ _ => 0) (n - 0) 0 p) := Lib.hid (by rw [hR, Nat.sub_zero])
  have Hwf := Lib.hid hw
  have HoT := Lib.hid hT
  have HbM := Lib.hid (show ∀ z ∈ [b], z ∉ M from fun z hz hm => by simp at hz; subst hz; exact hbM0 hm)
  have HbF := Lib.hid (show ∀ z ∈ [b], z ∉ F from fun z hz hm => by simp at hz; subst hz; exact hbF0 hm)
  have hbl := hb.lt
  clear hR hw hT
  go_enter Try.func63, Try.ntmps63
  go_wp2
  go_loopw [] (fun wr => ∃ (i : Nat) (v : Value) (m : List Int) (f : List Nat), i ≤ n ∧ Blk wr b [.pointer (some ⟨L.g, 0, none⟩), .int .i64 i, v] ∧ Rd wr v m f ∧ (0 < i → Fresh w.heap.size wr f) ∧ b ∉ f ∧ Ch 36 B wr L gv n G T M F ∧ PM.PN n m ∧ Hid (R = PM.desc T n (fun _ _ => 0) (n - i) i m) ∧ Only [b] w wr)
    (fun wr => n - (intOf ((wr.cell? ⟨b, 1, none⟩).getD undef)).toNat)
  case atStart => exact ⟨0, v, p, fp, Nat.zero_le _, hb, hv, fun h => absurd h (Nat.lt_irrefl _), hbf, hC, hp, HR0, Only.refl _ _⟩
  case round =>
    obtain ⟨W2, hnew⟩ : ∃ W, W = wr := ⟨_, rfl⟩
    subst hnew
    clear hb hv hC hp hbf
    obtain ⟨i, v, m, f, hi, hB, hr, hF, hbf, hC, hpm, hRR, hO⟩ := hrel
    have y1 := hB.cell 1 rfl
    have y0 := hB.cell 0 rfl
    have yn := hC.cn
    go_upto_region 1 with fail
    go_quiet (fail)
    obtain ⟨W3, hW3⟩ : ∃ W, W = W2.drewN nq := ⟨_, rfl⟩
    have kq : Only [] W2 W3 := by rw [hW3]; exact (Only.refl _ _).drewN _
    rw [← hW3]
    have hB3 := hB.keep kq
    have hC3 := hC.keep kq
    have hr3 := Rp.keep hr kq
    have hO3 : Only [b] w W3 := hO.keepThen kq
    have y13 := hB3.cell 1 rfl
    have hO2 := hO3.size
    clear hW3
    by_cases hlt : i < n
    · have hwf := Hwf.out
      obtain ⟨C, hCd⟩ : ∃ C, C = PM.cho n T i m := ⟨_, rfl⟩
      have hCl : 0 < C.length := by rw [hCd, PM.cho_len hpm]; exact PM.cntR_pos hwf hlt
      have hkm : C[0] ∈ PM.cho n T i m := by rw [← hCd]; exact List.getElem_mem hCl
      have hg0 : C.getD 0 0 = C[0] := by rw [List.getD_eq_getElem?_getD, List.getElem?_eq_getElem hCl]; rfl
      have hpp2 := (PM.putV_pn hwf hlt hpm hkm).1
      have hRR2 : R = PM.desc T n (fun _ _ => 0) (n - (i + 1)) (i + 1) (PM.putV T i m C[0]) := by
        subst hCd
        rw [hRR.out]
        exact PM.desc_step hlt m rfl hCl
      have HcL := Lib.hid (walkLeast_any W3 hC3 hwf HoT.out b i hlt v m f hB3 hr3 hpm)
      rw [← hCd, hg0] at HcL
      obtain ⟨x, hx⟩ : ∃ x, x = C[0] := ⟨_, rfl⟩
      rw [← hx] at HcL hkm hpp2 hRR2
      have HRR2 := Lib.hid hRR2
      have Hpp2 := Lib.hid hpp2
      have Hkm := Lib.hid hkm
      have Hpm := Lib.hid hpm
      have HC3 := Lib.hid hC3
      have HB3 := Lib.hid hB3
      have hltI : (i : Int) < (n : Int) := by omega
      clear hCd hCl hRR2 hkm hpm hpp2 hwf hC hC3 hB hB3 hRR yn kq hg0 hx hF
      go_wp2_with (first
        | (go_at_call 96; (with_reducible refine (HcL.out).mono ?_); rintro en w6 ⟨c6, rfl, t6⟩)
        | (go_at_call 97; (with_reducible refine (take_yes w6 (HC3.out.keep t6) Hwf.out HoT.out b i hlt v m f (HB3.out.keep t6) (Rp.keep hr3 t6) Hpm.out x Hkm.out).mono ?_); rintro en w9 ⟨rfl, ⟨v9, f9, B9, r9, F9⟩, O9⟩)
        | fail "no arm")
      have k29 : Only [b] w w9 := (hO3.keepThen t6).trans O9
      have HC9 := (HC3.out.keep t6).only O9 HbM.out HbF.out
      have F9' : Fresh w.heap.size w9 f9 := F9.mono (by have := t6.size; omega)
      have y9 := B9.cell 1 rfl
      have hb9 : b ∉ f9 := fun hm => by have := F9'.ge b hm; omega
      go_roundw
      case rel => exact ⟨i + 1, v9, _, f9, by omega, B9, r9, fun _ => F9', hb9, HC9, Hpp2.out, HRR2, k29⟩
      case measure => rw [y9, y1]; simp [intOf]; omega
    · obtain rfl : i = n := by omega
      have hfin : R = m := by rw [hRR.out]; exact PM.desc_end (Nat.le_refl _) m
      have hge : ¬ ((i : Int) < (i : Int)) := by omega
      have y2 := hB3.cell 2 rfl
      have Hfin := Lib.hid hfin
      have hF3 := (hF hn).keep kq
      clear hfin hRR
      go_wp2
      go_ret
      exact ⟨v, rfl, f, by rw [Hfin.out]; exact hr3, hF3, hO3⟩
set_option maxHeartbeats 4000000 in
theorem cosetMin_any {B : Nat} {L : Lay} {gv : Nat → Value} {n : Nat} {G : PM.Gens} {T : PM.Rows} {M F : List Nat} (w : World) (hC : Ch 36 B w L gv n G T M F) (hw : PM.WF n T) (hT : L.oT = 1) (v : Value) (p : List Int) (fp : List Nat)
    (hv : Rd w v p fp) (hp : PM.PN n p) :
    Calls Try.prog 56 #[.pointer (some ⟨L.g, 0, none⟩), v] w fun e w' => ∃ v' f', e = .returned v' ∧ Rd w' v' (PM.desc T n (fun _ _ => 0) n 0 p) f' ∧ Fresh w.heap.size w' f' ∧ Only [] w w' := by
  have hn : 0 < n := hC.pos
  have hn20 : n ≤ 20 := hC.le
  obtain ⟨R, hR⟩ : ∃ R, R = PM.desc T n (fun _ _ => 0) n 0 p := ⟨_, rfl⟩
  rw [← hR]
  have HR0 : Hid (R = PM.desc T n (fun _ _ => 0) (n - 0) 0 p) := Lib.hid (by rw [hR, Nat.sub_zero])
  have Hwf := Lib.hid hw
  have HoT := Lib.hid hT
  have hcn := hC.cn
  have hpl : p.length ≤ 1073741824 := by rw [hp.1]; omega
  have HC := Lib.hid hC
  have Hp := Lib.hid hp
  clear hR hw hT hC hp
  go_enter Try.func56, Try.ntmps56
  go_wp2_with (first
    | (go_at_call 84; (with_reducible refine (copyInts_rd v p fp w hv hpl).mono ?_); rintro en w1 ⟨v1, f1, rfl, r1, F1, t1⟩)
    | fail "no arm")
  go_loopw [5, 6] (fun o y wr => ∃ (i : Nat) (m : List Int) (f : List Nat), i ≤ n ∧ y = .int .i64 i ∧ Rd wr o m f ∧ Fresh w.heap.size wr f ∧ PM.PN n m ∧ Hid (R = PM.desc T n (fun _ _ => 0) (n - i) i m) ∧ Only [] w wr)
    (fun _ y _ => n - (intOf y).toNat)
  case atStart => exact ⟨0, p, f1, Nat.zero_le _, rfl, r1, F1, Hp.out, HR0, t1⟩
  case round =>
    obtain ⟨W2, hnew⟩ : ∃ W, W = wr := ⟨_, rfl⟩
    subst hnew
    clear r1 F1 t1
    obtain ⟨i, m, f, hi, rfl, hr, hF, hpm, hRR, hO⟩ := hrel
    have yn := hO.cell (by simp) hcn
    by_cases hlt : i < n
    · have hwf := Hwf.out
      have hltI : (i : Int) < (n : Int) := by omega
      obtain ⟨C, hCd⟩ : ∃ C, C = PM.cho n T i m := ⟨_, rfl⟩
      have hCl : 0 < C.length := by rw [hCd, PM.cho_len hpm]; exact PM.cntR_pos hwf hlt
      have hkm : C[0] ∈ PM.cho n T i m := by rw [← hCd]; exact List.getElem_mem hCl
      have hpp2 := (PM.putV_pn hwf hlt hpm hkm).1
      have hRR2 : R = PM.desc T n (fun _ _ => 0) (n - (i + 1)) (i + 1) (PM.putV T i m C[0]) := by
        subst hCd
        rw [hRR.out]
        exact PM.desc_step hlt m rfl hCl
      have HcS := Lib.hid (choicesAt_any W2 (HC.out.keep hO) HoT.out i hlt u5 m f hr hpm)
      rw [← hCd] at HcS
      obtain ⟨x, hx⟩ : ∃ x, x = C[0] := ⟨_, rfl⟩
      have HcW := Lib.hid (fun (W : World) (hW : Only [] W2 W) => withEntry_any W ((HC.out.keep hO).keep hW) hwf HoT.out i hlt u5 m f (Rp.keep hr hW) hpm C[0] hkm)
      rw [← hx] at HcW hpp2 hRR2
      have HRR2 := Lib.hid hRR2
      have Hpp2 := Lib.hid hpp2
      have Hx := Lib.hid hx
      have hCI : (0 : Int) < (C.length : Int) := by omega
      have hsz := hO.size
      clear hCd hRR2 hkm hpp2 hwf hRR hx hpm
      go_wp2_with (first
        | (go_at_call 93; (with_reducible refine (HcS.out).mono ?_); rintro en w6 ⟨b6, o6, c6, f6, rfl, I6, F6, t6⟩; obtain ⟨b8, o8, e8, -, c8⟩ := I6.at_ 0 hCl; injection e8 with e8; injection e8 with e81 e82; subst e81; subst e82; rw [← Hx.out, Nat.add_zero] at c8)
        | (go_at_call 92; (with_reducible refine (HcW.out w6 t6).mono ?_); rintro en w7 ⟨v7, f7, rfl, r7, F7, t7⟩)
        | fail "no arm")
      have hF7 : Fresh w.heap.size w7 f7 := F7.mono (by have := t6.size; omega)
      go_roundw
      case rel => exact ⟨i + 1, _, f7, by omega, by go_num, r7, hF7, Hpp2.out, HRR2, (hO.trans t6).trans t7⟩
      case measure => simp [intOf]; omega
    · obtain rfl : i = n := by omega
      have hfin : R = m := by rw [hRR.out]; exact PM.desc_end (Nat.le_refl _) m
      have hge : ¬ ((i : Int) < (i : Int)) := by omega
      have Hfin := Lib.hid hfin
      clear hfin hRR
      go_wp2
      go_ret
      exact ⟨u5, rfl, f, by rw [Hfin.out]; exact hr, hF, hO⟩
end Go.Proofs.Ytbediokigibdlaa

namespace Go.Proofs.Ytbediokigibdlaa
open Go.RowKit
set_option maxRecDepth 10000
end Go.Proofs.Ytbediokigibdlaa

namespace Go.Proofs.Ytbediokigibdlaa
open Go.RowKit
set_option maxRecDepth 10000
end Go.Proofs.Ytbediokigibdlaa

namespace PM
end PM
namespace Go.Proofs.Ytbediokigibdlaa
open Go.RowKit
set_option maxRecDepth 10000
section
variable {α : Type} [Rp α] {w0 W wx : World} {B : Nat} {e : TypeId} {G : List Nat} {v : Value} {l : List α}
/-- nothing is held any more -/
theorem AccK.drop (h : AccK w0 B e G W wx v l) (W' : World) : AccK w0 B e [] W' wx v l := by
  obtain ⟨fs, a, b, c, d, f, g⟩ := h
  exact ⟨fs, a, b, c, by simp, by simp, by simp⟩
theorem AccK.apart (h : AccK w0 B e G W wx v l) : (∀ b ∈ G, b ∉ v.ownBlock.toList) ∧ ∀ b ∈ v.ownBlock.toList, B ≤ b := by
  obtain ⟨fs, a, b, c, d, f, g⟩ := h
  exact ⟨g, fun x hx => (a.ownlt x (by simpa using hx)).1⟩
theorem AccK.begin (W : World) (e : TypeId) : AccK W W.heap.size e [] W (W.alloc (.cells #[] e)) (.slice (some ⟨W.heap.size, 0, none⟩) 0 0) ([] : List α) :=
  ⟨[], Acc.made W W.heap.size _ rfl (Nat.le_refl _), Fresh.nil _ _, (Only.refl _ _).alloc _, by simp, by simp, by simp⟩
end
end Go.Proofs.Ytbediokigibdlaa

namespace Go.Proofs.Ytbediokigibdlaa
open Go.RowKit
set_option maxRecDepth 10000


end Go.Proofs.Ytbediokigibdlaa

namespace PM
end PM
namespace Go.Proofs.Ytbediokigibdlaa
open Go.RowKit
set_option maxRecDepth 10000
theorem rank_chain (n : Nat) (vg : Value) (gens : List (List Int)) (fpg : List Nat) (w : World) (hg : Rd w vg gens fpg) (hgs : gensB n gens = true) : ∃ G T, PM.Chain n gens G T := by
  obtain ⟨⟨n1, n20⟩, hgl, hpn⟩ := gensB_iff.1 hgs
  obtain ⟨e, w', fr, ⟨L, gv, G, T, M, F, -, -, -, -, h, -⟩, -⟩ := buildChain_any n (by omega) (by omega) vg gens fpg w hg (by simpa using hpn) (by omega) []
  exact ⟨G, T, h⟩


end Go.Proofs.Ytbediokigibdlaa

namespace Go.Proofs.Ytbediokigibdlaa
open Go.RowKit
set_option maxRecDepth 10000


end Go.Proofs.Ytbediokigibdlaa

namespace Go.Proofs.Ytbediokigibdlaa
open Go.RowKit
set_option maxRecDepth 10000
set_option maxHeartbeats 1000000 in
theorem specGroupOrder_yes (n : Nat) (vg : Value) (gens : List (List Int)) (fpg : List Nat) (w : World) (hg : Rd w vg gens fpg) (hgs : gensB n gens = true) :
    Calls Try.prog 13 #[.int .i64 n, vg] w fun e w' => e = .returned (.int .i64 (ordC n gens n : Nat)) ∧ 1 ≤ ordC n gens n ∧ ordC n gens n ≤ 2432902008176640000 ∧ Only [] w w' := by
  obtain ⟨⟨n1, n20⟩, hgl, hpn⟩ := gensB_iff.1 hgs
  have hpn' : ∀ g ∈ gens, PM.PN n g := by simpa using hpn
  have hn : 0 < n := by omega
  have hn20 : n ≤ 20 := by omega
  have Hgs := Lib.hid hgs
  have Hpn := Lib.hid hpn'
  clear hpn hpn' hgs
  go_enter Try.func13, Try.ntmps13
  go_wp2_with (first
    | (go_at_call 10; (with_reducible refine (specIsGens_rd n vg gens fpg w hg).mono ?_); rintro en w1 ⟨he, t1⟩; rw [Hgs.out] at he; subst he; have t1 := t1.only [])
    | (go_at_call 37; (with_reducible refine (buildChain_any n hn hn20 vg gens fpg w1 (Rp.keep hg t1) Hpn.out (by omega)).mono ?_); rintro en w3 ⟨L, gv, G, T, M, F, rfl, hoG, hoT, hC, hCh, t3⟩; have HC := Lib.hid hC; have HCh := Lib.hid hCh; have HoT := Lib.hid hoT; clear hC hCh hoT hoG)
    | (go_at_call 53; (with_reducible refine (chainOrder_any w3 HC.out HCh.out.inv.wf HoT.out).mono ?_); rintro en w4 ⟨he, t4⟩; rw [ordC_eq HCh.out hn Hpn.out (Nat.le_refl _)] at he; subst he)
    | fail "no arm")
  go_ret
  exact ⟨rfl, ordC_pos HCh.out hn Hpn.out (Nat.le_refl _), ordC_le HCh.out hn Hpn.out hn20 (Nat.le_refl _), (t1.trans t3).trans t4⟩
theorem specGroupOrder_i (n : Int) (vg : Value) (gens : List (List Int)) (fpg : List Nat) (w : World) (hg : Rd w vg gens fpg) (hgs : gensB n gens = true) :
    Calls Try.prog 13 #[.int .i64 n, vg] w fun e w' => e = .returned (.int .i64 (ordC n.toNat gens n.toNat : Nat)) ∧ 1 ≤ ordC n.toNat gens n.toNat ∧ ordC n.toNat gens n.toNat ≤ 2432902008176640000 ∧ Only [] w w' := by
  obtain ⟨⟨n1, n20⟩, -, -⟩ := gensB_iff.1 hgs
  obtain ⟨m, rfl⟩ := Int.eq_ofNat_of_zero_le (by omega : 0 ≤ n)
  exact specGroupOrder_yes m vg gens fpg w hg hgs



end Go.Proofs.Ytbediokigibdlaa

namespace Go.Proofs.Ytbediokigibdlaa
open Go.RowKit
set_option maxRecDepth 10000
end Go.Proofs.Ytbediokigibdlaa

namespace Go.Proofs.Ytbediokigibdlaa
open Go.RowKit
set_option maxRecDepth 10000
set_option maxHeartbeats 2000000 in
theorem implGroupOrder_yes (n : Nat) (vg : Value) (gens : List (List Int)) (fpg : List Nat) (w : World) (hg : Rd w vg gens fpg) (hgs : gensB n gens = true) :
    Calls Try.prog 28 #[.int .i64 n, vg] w fun e w' => e = .returned (.int .i64 (ordC n gens n : Nat)) ∧ Only [] w w' := by
  obtain ⟨⟨n1, n20⟩, hgl, hpn⟩ := gensB_iff.1 hgs
  have hpn' : ∀ g ∈ gens, PM.PN n g := by simpa using hpn
  have hn : 0 < n := by omega
  have hn20 : n ≤ 20 := by omega
  have Hgs := Lib.hid hgs
  have Hpn := Lib.hid hpn'
  clear hpn hpn' hgs
  go_enter Try.func28, Try.ntmps28
  go_wp2_with (first
    | (go_at_call 43; (with_reducible refine (implIsGens_rd n vg gens fpg w hg).mono ?_); rintro en w1 ⟨he, t1⟩; rw [Hgs.out] at he; subst he)
    | (go_at_call 34; (with_reducible refine (implNewChain_any n hn hn20 vg gens fpg w1 (Rp.keep hg t1) Hpn.out (by omega)).mono ?_); rintro en w4 ⟨L, gv, G, T, M, F, rfl, -, hoT, hC, hCh, t4⟩; have HC := Lib.hid hC; have HCh := Lib.hid hCh; have HoT := Lib.hid hoT; clear hC hCh hoT)
    | (go_at_call 52; (with_reducible refine (implOrder0 HC.out HCh.out.inv.wf HoT.out).mono ?_); rintro en w5 ⟨rfl, t5⟩)
    | fail "no arm")
  go_ret
  exact ⟨ret_int (by rw [ordC_eq HCh.out hn Hpn.out (Nat.le_refl _)]), (t1.trans t4).trans t5⟩
theorem implGroupOrder_no (n : Int) (vg : Value) (gens : List (List Int)) (fpg : List Nat) (w : World) (hg : Rd w vg gens fpg) (hgs : gensB n gens = false) :
    Calls Try.prog 28 #[.int .i64 n, vg] w fun e w' => e = .returned (.int .i64 0) ∧ Only [] w w' := by
  have Hgs := Lib.hid hgs
  clear hgs
  go_enter Try.func28, Try.ntmps28
  go_wp2_with (first
    | (go_at_call 43; (with_reducible refine (implIsGens_rd n vg gens fpg w hg).mono ?_); rintro en w1 ⟨he, t1⟩; rw [Hgs.out] at he; subst he)
    | fail "no arm")
  go_ret
  exact ⟨rfl, t1⟩
end Go.Proofs.Ytbediokigibdlaa

namespace Go.Proofs.Ytbediokigibdlaa
open Go.RowKit
set_option maxRecDepth 10000
set_option maxHeartbeats 4000000 in
theorem implHasAll_any (n : Nat) {B : Nat} {L : Lay} {gv : Nat → Value} {gens : List (List Int)} {G : PM.Gens} {T : PM.Rows} {M F : List Nat} (w : World) (hC : Ch 36 B w L gv n G T M F) (hCh : PM.Chain n gens G T) (hT : L.oT = 2) (hpn : ∀ g ∈ gens, PM.PN n g)
    (v : Value) (ls : List (List Int)) (fl : List Nat) (hv : Rd w v ls fl) (hls : ∀ p ∈ ls, PM.PN n p) :
    Calls Try.prog 72 #[.pointer (some ⟨L.g, 0, none⟩), v] w fun e w' => e = .returned (.bool (ls.all (memB n gens))) ∧ Only [] w w' := by
  have hn : 0 < n := hC.pos
  obtain ⟨A, C, ob, fps, rfl, -, hS⟩ := hv.open_
  have hb := hS.bound
  obtain ⟨R, hR⟩ : ∃ R, R = ls.all (memB n gens) := ⟨_, rfl⟩
  rw [← hR]
  have HR := Lib.hid hR
  have HC := Lib.hid hC
  have HCh := Lib.hid hCh
  have HT := Lib.hid hT
  have Hpn := Lib.hid hpn
  have Hls := Lib.hid hls
  clear hC hCh hT hpn hR hls
  go_enter Try.func72, Try.ntmps72
  go_wp2
  go_loopw [9] (fun y wr => ∃ i : Nat, i ≤ ls.length ∧ y = .int .i64 i ∧ Hid ((ls.take i).all (memB n gens) = true) ∧ Only [] w wr)
    (fun y _ => ls.length - (intOf y).toNat)
  case atStart => exact ⟨0, Nat.zero_le _, rfl, Lib.hid rfl, Only.refl _ _⟩
  case round =>
    obtain ⟨W2, hnew⟩ : ∃ W, W = wr := ⟨_, rfl⟩
    subst hnew
    obtain ⟨i, hi, rfl, hq, hO⟩ := hrel
    by_cases hlt : i < ls.length
    · have hltI : (i : Int) < (ls.length : Int) := by omega
      have hi0 : (0 : Int) ≤ (i : Int) := by omega
      obtain ⟨b, off, u, rfl, -, hc0, hu0⟩ := hS.atRow i hlt
      have hc := hO.cell (by simp) hc0
      have hpm := Hls.out ls[i] (List.getElem_mem hlt)
      obtain ⟨p, hp⟩ : ∃ p, p = ls[i] := ⟨_, rfl⟩
      have hmem : p ∈ ls := by rw [hp]; exact List.getElem_mem hlt
      have hsn := take_succ_get ls i hlt
      rw [← hp] at hpm hu0 hsn
      have Hmem := Lib.hid hmem
      have Hsn := Lib.hid hsn
      have Hpm := Lib.hid hpm
      have Hh := Lib.hid (implHas0 (HC.out.keep hO) HCh.out.inv.wf HT.out (Rp.keep hu0 hO) hpm)
      rw [memB_has HCh.out hn Hpn.out hpm] at Hh
      clear hp hpm hu0 hsn hc0 hmem
      rcases hm : memB n gens p
      · have Hm := Lib.hid hm
        clear hm
        go_wp2_with (first
          | (go_at_call 35; (with_reducible refine (Hh.out).mono ?_); rintro e w5 ⟨he, t5⟩; rw [Hm.out] at he; subst he)
          | fail "no arm")
        go_ret
        refine ⟨ret_bool ?_, hO.trans t5⟩
        rw [HR.out]
        rw [eq_comm, Bool.eq_false_iff]
        intro h
        have := List.all_eq_true.1 h p Hmem.out
        rw [Hm.out] at this
        cases this
      · have Hm := Lib.hid hm
        clear hm
        go_wp2_with (first
          | (go_at_call 35; (with_reducible refine (Hh.out).mono ?_); rintro e w5 ⟨he, t5⟩; rw [Hm.out] at he; subst he)
          | fail "no arm")
        go_roundw
        case rel => exact ⟨i + 1, by omega, by go_num, Lib.hid (by rw [Hsn.out, List.all_append, hq.out]; simp [Hm.out]), hO.trans t5⟩
        case measure => simp [intOf]; omega
    · obtain rfl : i = ls.length := by omega
      have hge : ¬ ((ls.length : Int) < (ls.length : Int)) := by omega
      have hfin := hq.out
      rw [List.take_length, ← HR.out] at hfin
      have Hfin := Lib.hid hfin
      clear hfin hq
      go_wp2
      go_ret
      exact ⟨ret_bool Hfin.out.symm, hO⟩
set_option maxHeartbeats 1000000 in
theorem precedes_rd (v u : Value) (l p : List Int) (f g : List Nat) (w : World) (h : Rd w v l f) (h' : Rd w u p g) (hl : l.length = p.length) :
    Calls Try.prog 95 #[v, u] w fun e w' => e = .returned (.bool (prec l p)) ∧ Drew w w' := by
  obtain ⟨a, cap, rfl, IL⟩ := h.ints
  obtain ⟨a', cap', rfl, IP⟩ := h'.ints
  have hb := IL.bound
  have hb' := IP.bound
  have Hl := Lib.hid hl
  clear hl
  go_enter Try.func95, Try.ntmps95
  go_wp2
  go_loopw [5] (fun i wr => ∃ j : Nat, j ≤ l.length ∧ i = .int .i64 j ∧ (∀ i, i < j → l[i]? = p[i]?) ∧ Drew w wr)
    (fun i _ => l.length - (intOf i).toNat)
  case atStart => exact ⟨0, Nat.zero_le _, rfl, by simp, Drew.refl _⟩
  case round =>
    obtain ⟨j, hj, rfl, hr, n, rfl⟩ := hrel
    have Hr := Lib.hid hr
    clear hr
    by_cases hlt : j < l.length
    · have hlt' : j < p.length := by have := Hl.out; omega
      obtain ⟨b, off, rfl, -, hc⟩ := IL.at_ j hlt
      obtain ⟨b', off', rfl, -, hc'⟩ := IP.at_ j hlt'
      rcases hq : (l[j] != p[j])
      · have heq : l[j] = p[j] := by simpa using hq
        have Heq := Lib.hid heq
        clear heq
        go_wp2
        go_quiet (fail)
        go_wp2
        go_roundw
        case rel => exact ⟨j + 1, by omega, by go_num, fun i hi => by
          rcases Nat.lt_or_eq_of_le (Nat.lt_succ_iff.1 hi) with h1 | rfl
          · exact Hr.out i h1
          · rw [List.getElem?_eq_getElem hlt, List.getElem?_eq_getElem hlt', Heq.out], ⟨_, rfl⟩⟩
        case measure => simp [intOf]; omega
      · have hne : l[j] ≠ p[j] := by simpa using hq
        have Hne := Lib.hid hne
        clear hne
        go_wp2
        go_quiet (fail)
        go_wp2
        go_quiet (fail)
        go_wp2
        go_ret
        exact ⟨ret_bool (prec_at Hr.out hlt hlt' Hne.out).symm, (((Drew.refl _).drewN _).drewN _).drewN _⟩
    · obtain rfl : j = l.length := by omega
      go_wp2
      go_ret
      exact ⟨ret_bool (prec_all Hr.out Hl.out).symm, ⟨_, rfl⟩⟩
theorem lex_prec {n : Nat} {p q : List Int} (hp : p.length = n) (hq : q.length = n) (h : PM.Lex n p q) : prec p q = true := by
  obtain ⟨i, hi, ha, hlt⟩ := h
  have e1 := PM.at_nat p i (by omega)
  have e2 := PM.at_nat q i (by omega)
  rw [e1, e2] at hlt
  rw [prec_at (j := i) (fun k hk => ?_) (by omega) (by omega) (by omega)]
  · exact decide_eq_true hlt
  · have h1 := ha (k : Int) (by omega) (by omega)
    rw [PM.at_nat p k (by omega), PM.at_nat q k (by omega)] at h1
    rw [List.getElem?_eq_getElem (by omega), List.getElem?_eq_getElem (by omega), h1]


end Go.Proofs.Ytbediokigibdlaa
