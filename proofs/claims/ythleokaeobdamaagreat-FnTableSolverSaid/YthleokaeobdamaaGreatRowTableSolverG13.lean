/- The reference's known puzzles and drawn puzzles: KnownPuzzle, drawPuzzle (laws 45, 50, 55, 59). Bounds only. (Printed by mkknown.py.) -/
import Derived.Test.YthleokaeobdamaaGreatRowTableSolverG12
import Derived.Test.YthleokaeobdamaaGreatRowTableSolverG11
import Derived.Laws.BytesArg
import Derived.Lib.ConvBytes
import Derived.Deep.RegionLaw
namespace Go.Proofs.YthleokaeobdamaaGreat
open Go.RowKit
set_option maxRecDepth 10000
theorem Zdp (w:World) (L:List ByteArray) (e:TypeId) {g m:Nat} (hg:g = w.heap.size) (hm:m = L.length) {cs:Array Value} (hcs:cs = (L.map Value.string).toArray) (h:∀ x∈L,x.size<=maxLen) (hl:L.length<=1000):Rd (w.alloc (.cells cs e)) (.slice (some ⟨g,0,none⟩) m m) L [g]:=by
 subst hg hm hcs
 exact Zth w L e h hl
set_option maxHeartbeats 4000000 in
theorem Zhr (w:World):Calls Tryz.prog 145 #[.int .i64 0] w (PzE2 27 w):=by
 have hB0:=Blk.new w [.int .i64 0,.string ⟨#[]⟩,.slice none 0 0] 26
 have ho:Only [] w ((w.alloc (.cells #[.int .i64 0,.string ⟨#[]⟩,.slice none 0 0] 26)).alloc (.cells #[.string ⟨#[40,48,32,49,41]⟩,.string ⟨#[40,49,32,50,41]⟩,.string ⟨#[40,50,32,51,41]⟩] 9)):=(zO.alloc _).alloc _
 have HR:Hid (Rd ((w.alloc (.cells #[.int .i64 0,.string ⟨#[]⟩,.slice none 0 0] 26)).alloc (.cells #[.string ⟨#[40,48,32,49,41]⟩,.string ⟨#[40,49,32,50,41]⟩,.string ⟨#[40,50,32,51,41]⟩] 9)) (.slice (some ⟨w.heap.size + 1,0,none⟩) 3 3) [(⟨#[40,48,32,49,41]⟩:ByteArray),(⟨#[40,49,32,50,41]⟩:ByteArray),(⟨#[40,50,32,51,41]⟩:ByteArray)] [w.heap.size + 1]):=zH (Zdp _ [(⟨#[40,48,32,49,41]⟩:ByteArray),(⟨#[40,49,32,50,41]⟩:ByteArray),(⟨#[40,50,32,51,41]⟩:ByteArray)] 9 (by simp) rfl rfl (by decide) (by decide))
 have Hs:Hid (∀ x∈[(⟨#[40,48,32,49,41]⟩:ByteArray),(⟨#[40,49,32,50,41]⟩:ByteArray),(⟨#[40,50,32,51,41]⟩:ByteArray)],2<=x.size/\x.size<=100):=zH (by decide)
 have HC:Hid (Calls Tryz.prog 204 #[.int .i64 4,.slice (some ⟨w.heap.size + 1,0,none⟩) 3 3] ((w.alloc (.cells #[.int .i64 0,.string ⟨#[]⟩,.slice none 0 0] 26)).alloc (.cells #[.string ⟨#[40,48,32,49,41]⟩,.string ⟨#[40,49,32,50,41]⟩,.string ⟨#[40,50,32,51,41]⟩] 9)) (PzE 27 ((w.alloc (.cells #[.int .i64 0,.string ⟨#[]⟩,.slice none 0 0] 26)).alloc (.cells #[.string ⟨#[40,48,32,49,41]⟩,.string ⟨#[40,49,32,50,41]⟩,.string ⟨#[40,50,32,51,41]⟩] 9)))):=zH (Zcb 4 _ _ _ _ (by decide) HR.out (by decide) Hs.out)
 have hsz:w.heap.size + 2<=((w.alloc (.cells #[.int .i64 0,.string ⟨#[]⟩,.slice none 0 0] 26)).alloc (.cells #[.string ⟨#[40,48,32,49,41]⟩,.string ⟨#[40,49,32,50,41]⟩,.string ⟨#[40,50,32,51,41]⟩] 9)).heap.size:=by simp
 have HB0:=zH (hB0.keep (zO.alloc (.cells #[.string ⟨#[40,48,32,49,41]⟩,.string ⟨#[40,49,32,50,41]⟩,.string ⟨#[40,50,32,51,41]⟩] 9)))
 have Hk:=zH ho
 have Hsz:=zH hsz
 clear HR Hs hB0 ho hsz
 go_enter Tryz.func145,Tryz.ntmps145
 go_wp2_with (first
  | (go_at_call 204;(with_reducible refine (HC.out).mono ?_);rintro e w1 ⟨n1,nm,vm,rfl,hP,t1⟩;obtain ⟨am,km,cm,rfl⟩:=hP.form;have HP:=zH hP;clear hP;have B1:=HB0.out.keep t1;obtain ⟨g0,g1,g2⟩:=B1.c3;obtain ⟨p0,p1,p2⟩:=B1.f3;have Yf:=((B1.set 0 (.int .i64 n1)).set 1 (.string nm)).set 2 (.slice am km cm);simp only [List.set] at Yf;obtain ⟨r0,r1,r2⟩:=Yf.c3;clear Yf B1)
  | fail)
 have kst:Only [w.heap.size] w1 (((w1.setCell ⟨w.heap.size,0,none⟩ (.int .i64 n1)).setCell ⟨w.heap.size,1,none⟩ (.string nm)).setCell ⟨w.heap.size,2,none⟩ (.slice am km cm)):=((zO.setCell (by simp) _).setCell (by simp) _).setCell (by simp) _
 have hz:=Hsz.out
 exact bodyPost_ret (v:=.tuple #[.agg #[.int .i64 n1,.string nm,.slice am km cm],.bool true]) (by simp [results,Tryz.results145,go_sem,r0,r1,r2]) rfl (PzE2.mk ((HP.out.only kst (fun b hb=>by simp at hb;omega)).mono (by omega)) ((Hk.out.trans t1).then_ kst (fun b hb hl=>by simp at hb;omega)))
set_option maxHeartbeats 4000000 in
theorem Zoe (w:World):Calls Tryz.prog 145 #[.int .i64 1] w (PzE2 27 w):=by
 have hB0:=Blk.new w [.int .i64 0,.string ⟨#[]⟩,.slice none 0 0] 26
 have ho:Only [] w ((w.alloc (.cells #[.int .i64 0,.string ⟨#[]⟩,.slice none 0 0] 26)).alloc (.cells #[.string ⟨#[40,48,32,49,32,50,32,51,32,52,32,53,41]⟩,.string ⟨#[40,48,32,50,41]⟩] 9)):=(zO.alloc _).alloc _
 have HR:Hid (Rd ((w.alloc (.cells #[.int .i64 0,.string ⟨#[]⟩,.slice none 0 0] 26)).alloc (.cells #[.string ⟨#[40,48,32,49,32,50,32,51,32,52,32,53,41]⟩,.string ⟨#[40,48,32,50,41]⟩] 9)) (.slice (some ⟨w.heap.size + 1,0,none⟩) 2 2) [(⟨#[40,48,32,49,32,50,32,51,32,52,32,53,41]⟩:ByteArray),(⟨#[40,48,32,50,41]⟩:ByteArray)] [w.heap.size + 1]):=zH (Zdp _ [(⟨#[40,48,32,49,32,50,32,51,32,52,32,53,41]⟩:ByteArray),(⟨#[40,48,32,50,41]⟩:ByteArray)] 9 (by simp) rfl rfl (by decide) (by decide))
 have Hs:Hid (∀ x∈[(⟨#[40,48,32,49,32,50,32,51,32,52,32,53,41]⟩:ByteArray),(⟨#[40,48,32,50,41]⟩:ByteArray)],2<=x.size/\x.size<=100):=zH (by decide)
 have HC:Hid (Calls Tryz.prog 204 #[.int .i64 6,.slice (some ⟨w.heap.size + 1,0,none⟩) 2 2] ((w.alloc (.cells #[.int .i64 0,.string ⟨#[]⟩,.slice none 0 0] 26)).alloc (.cells #[.string ⟨#[40,48,32,49,32,50,32,51,32,52,32,53,41]⟩,.string ⟨#[40,48,32,50,41]⟩] 9)) (PzE 27 ((w.alloc (.cells #[.int .i64 0,.string ⟨#[]⟩,.slice none 0 0] 26)).alloc (.cells #[.string ⟨#[40,48,32,49,32,50,32,51,32,52,32,53,41]⟩,.string ⟨#[40,48,32,50,41]⟩] 9)))):=zH (Zcb 6 _ _ _ _ (by decide) HR.out (by decide) Hs.out)
 have hsz:w.heap.size + 2<=((w.alloc (.cells #[.int .i64 0,.string ⟨#[]⟩,.slice none 0 0] 26)).alloc (.cells #[.string ⟨#[40,48,32,49,32,50,32,51,32,52,32,53,41]⟩,.string ⟨#[40,48,32,50,41]⟩] 9)).heap.size:=by simp
 have HB0:=zH (hB0.keep (zO.alloc (.cells #[.string ⟨#[40,48,32,49,32,50,32,51,32,52,32,53,41]⟩,.string ⟨#[40,48,32,50,41]⟩] 9)))
 have Hk:=zH ho
 have Hsz:=zH hsz
 clear HR Hs hB0 ho hsz
 go_enter Tryz.func145,Tryz.ntmps145
 go_wp2_with (first
  | (go_at_call 204;(with_reducible refine (HC.out).mono ?_);rintro e w1 ⟨n1,nm,vm,rfl,hP,t1⟩;obtain ⟨am,km,cm,rfl⟩:=hP.form;have HP:=zH hP;clear hP;have B1:=HB0.out.keep t1;obtain ⟨g0,g1,g2⟩:=B1.c3;obtain ⟨p0,p1,p2⟩:=B1.f3;have Yf:=((B1.set 0 (.int .i64 n1)).set 1 (.string nm)).set 2 (.slice am km cm);simp only [List.set] at Yf;obtain ⟨r0,r1,r2⟩:=Yf.c3;clear Yf B1)
  | fail)
 have kst:Only [w.heap.size] w1 (((w1.setCell ⟨w.heap.size,0,none⟩ (.int .i64 n1)).setCell ⟨w.heap.size,1,none⟩ (.string nm)).setCell ⟨w.heap.size,2,none⟩ (.slice am km cm)):=((zO.setCell (by simp) _).setCell (by simp) _).setCell (by simp) _
 have hz:=Hsz.out
 exact bodyPost_ret (v:=.tuple #[.agg #[.int .i64 n1,.string nm,.slice am km cm],.bool true]) (by simp [results,Tryz.results145,go_sem,r0,r1,r2]) rfl (PzE2.mk ((HP.out.only kst (fun b hb=>by simp at hb;omega)).mono (by omega)) ((Hk.out.trans t1).then_ kst (fun b hb hl=>by simp at hb;omega)))
set_option maxHeartbeats 4000000 in
theorem Zou (w:World):Calls Tryz.prog 145 #[.int .i64 2] w (PzE2 27 w):=by
 have hB0:=Blk.new w [.int .i64 0,.string ⟨#[]⟩,.slice none 0 0] 26
 have ho:Only [] w ((w.alloc (.cells #[.int .i64 0,.string ⟨#[]⟩,.slice none 0 0] 26)).alloc (.cells #[.string ⟨#[40,48,32,49,32,50,32,51,41]⟩,.string ⟨#[40,50,32,51,32,52,32,53,41]⟩] 9)):=(zO.alloc _).alloc _
 have HR:Hid (Rd ((w.alloc (.cells #[.int .i64 0,.string ⟨#[]⟩,.slice none 0 0] 26)).alloc (.cells #[.string ⟨#[40,48,32,49,32,50,32,51,41]⟩,.string ⟨#[40,50,32,51,32,52,32,53,41]⟩] 9)) (.slice (some ⟨w.heap.size + 1,0,none⟩) 2 2) [(⟨#[40,48,32,49,32,50,32,51,41]⟩:ByteArray),(⟨#[40,50,32,51,32,52,32,53,41]⟩:ByteArray)] [w.heap.size + 1]):=zH (Zdp _ [(⟨#[40,48,32,49,32,50,32,51,41]⟩:ByteArray),(⟨#[40,50,32,51,32,52,32,53,41]⟩:ByteArray)] 9 (by simp) rfl rfl (by decide) (by decide))
 have Hs:Hid (∀ x∈[(⟨#[40,48,32,49,32,50,32,51,41]⟩:ByteArray),(⟨#[40,50,32,51,32,52,32,53,41]⟩:ByteArray)],2<=x.size/\x.size<=100):=zH (by decide)
 have HC:Hid (Calls Tryz.prog 204 #[.int .i64 6,.slice (some ⟨w.heap.size + 1,0,none⟩) 2 2] ((w.alloc (.cells #[.int .i64 0,.string ⟨#[]⟩,.slice none 0 0] 26)).alloc (.cells #[.string ⟨#[40,48,32,49,32,50,32,51,41]⟩,.string ⟨#[40,50,32,51,32,52,32,53,41]⟩] 9)) (PzE 27 ((w.alloc (.cells #[.int .i64 0,.string ⟨#[]⟩,.slice none 0 0] 26)).alloc (.cells #[.string ⟨#[40,48,32,49,32,50,32,51,41]⟩,.string ⟨#[40,50,32,51,32,52,32,53,41]⟩] 9)))):=zH (Zcb 6 _ _ _ _ (by decide) HR.out (by decide) Hs.out)
 have hsz:w.heap.size + 2<=((w.alloc (.cells #[.int .i64 0,.string ⟨#[]⟩,.slice none 0 0] 26)).alloc (.cells #[.string ⟨#[40,48,32,49,32,50,32,51,41]⟩,.string ⟨#[40,50,32,51,32,52,32,53,41]⟩] 9)).heap.size:=by simp
 have HB0:=zH (hB0.keep (zO.alloc (.cells #[.string ⟨#[40,48,32,49,32,50,32,51,41]⟩,.string ⟨#[40,50,32,51,32,52,32,53,41]⟩] 9)))
 have Hk:=zH ho
 have Hsz:=zH hsz
 clear HR Hs hB0 ho hsz
 go_enter Tryz.func145,Tryz.ntmps145
 go_wp2_with (first
  | (go_at_call 204;(with_reducible refine (HC.out).mono ?_);rintro e w1 ⟨n1,nm,vm,rfl,hP,t1⟩;obtain ⟨am,km,cm,rfl⟩:=hP.form;have HP:=zH hP;clear hP;have B1:=HB0.out.keep t1;obtain ⟨g0,g1,g2⟩:=B1.c3;obtain ⟨p0,p1,p2⟩:=B1.f3;have Yf:=((B1.set 0 (.int .i64 n1)).set 1 (.string nm)).set 2 (.slice am km cm);simp only [List.set] at Yf;obtain ⟨r0,r1,r2⟩:=Yf.c3;clear Yf B1)
  | fail)
 have kst:Only [w.heap.size] w1 (((w1.setCell ⟨w.heap.size,0,none⟩ (.int .i64 n1)).setCell ⟨w.heap.size,1,none⟩ (.string nm)).setCell ⟨w.heap.size,2,none⟩ (.slice am km cm)):=((zO.setCell (by simp) _).setCell (by simp) _).setCell (by simp) _
 have hz:=Hsz.out
 exact bodyPost_ret (v:=.tuple #[.agg #[.int .i64 n1,.string nm,.slice am km cm],.bool true]) (by simp [results,Tryz.results145,go_sem,r0,r1,r2]) rfl (PzE2.mk ((HP.out.only kst (fun b hb=>by simp at hb;omega)).mono (by omega)) ((Hk.out.trans t1).then_ kst (fun b hb hl=>by simp at hb;omega)))
set_option maxHeartbeats 4000000 in
theorem Zon (w:World):Calls Tryz.prog 145 #[.int .i64 3] w (PzE2 27 w):=by
 have hB0:=Blk.new w [.int .i64 0,.string ⟨#[]⟩,.slice none 0 0] 26
 have ho:Only [] w ((w.alloc (.cells #[.int .i64 0,.string ⟨#[]⟩,.slice none 0 0] 26)).alloc (.cells #[.string ⟨#[40,48,32,49,32,50,32,51,41]⟩,.string ⟨#[40,49,32,50,32,54,32,53,41]⟩,.string ⟨#[40,48,32,52,32,53,32,49,41]⟩] 9)):=(zO.alloc _).alloc _
 have HR:Hid (Rd ((w.alloc (.cells #[.int .i64 0,.string ⟨#[]⟩,.slice none 0 0] 26)).alloc (.cells #[.string ⟨#[40,48,32,49,32,50,32,51,41]⟩,.string ⟨#[40,49,32,50,32,54,32,53,41]⟩,.string ⟨#[40,48,32,52,32,53,32,49,41]⟩] 9)) (.slice (some ⟨w.heap.size + 1,0,none⟩) 3 3) [(⟨#[40,48,32,49,32,50,32,51,41]⟩:ByteArray),(⟨#[40,49,32,50,32,54,32,53,41]⟩:ByteArray),(⟨#[40,48,32,52,32,53,32,49,41]⟩:ByteArray)] [w.heap.size + 1]):=zH (Zdp _ [(⟨#[40,48,32,49,32,50,32,51,41]⟩:ByteArray),(⟨#[40,49,32,50,32,54,32,53,41]⟩:ByteArray),(⟨#[40,48,32,52,32,53,32,49,41]⟩:ByteArray)] 9 (by simp) rfl rfl (by decide) (by decide))
 have Hs:Hid (∀ x∈[(⟨#[40,48,32,49,32,50,32,51,41]⟩:ByteArray),(⟨#[40,49,32,50,32,54,32,53,41]⟩:ByteArray),(⟨#[40,48,32,52,32,53,32,49,41]⟩:ByteArray)],2<=x.size/\x.size<=100):=zH (by decide)
 have HC:Hid (Calls Tryz.prog 204 #[.int .i64 7,.slice (some ⟨w.heap.size + 1,0,none⟩) 3 3] ((w.alloc (.cells #[.int .i64 0,.string ⟨#[]⟩,.slice none 0 0] 26)).alloc (.cells #[.string ⟨#[40,48,32,49,32,50,32,51,41]⟩,.string ⟨#[40,49,32,50,32,54,32,53,41]⟩,.string ⟨#[40,48,32,52,32,53,32,49,41]⟩] 9)) (PzE 27 ((w.alloc (.cells #[.int .i64 0,.string ⟨#[]⟩,.slice none 0 0] 26)).alloc (.cells #[.string ⟨#[40,48,32,49,32,50,32,51,41]⟩,.string ⟨#[40,49,32,50,32,54,32,53,41]⟩,.string ⟨#[40,48,32,52,32,53,32,49,41]⟩] 9)))):=zH (Zcb 7 _ _ _ _ (by decide) HR.out (by decide) Hs.out)
 have hsz:w.heap.size + 2<=((w.alloc (.cells #[.int .i64 0,.string ⟨#[]⟩,.slice none 0 0] 26)).alloc (.cells #[.string ⟨#[40,48,32,49,32,50,32,51,41]⟩,.string ⟨#[40,49,32,50,32,54,32,53,41]⟩,.string ⟨#[40,48,32,52,32,53,32,49,41]⟩] 9)).heap.size:=by simp
 have HB0:=zH (hB0.keep (zO.alloc (.cells #[.string ⟨#[40,48,32,49,32,50,32,51,41]⟩,.string ⟨#[40,49,32,50,32,54,32,53,41]⟩,.string ⟨#[40,48,32,52,32,53,32,49,41]⟩] 9)))
 have Hk:=zH ho
 have Hsz:=zH hsz
 clear HR Hs hB0 ho hsz
 go_enter Tryz.func145,Tryz.ntmps145
 go_wp2_with (first
  | (go_at_call 204;(with_reducible refine (HC.out).mono ?_);rintro e w1 ⟨n1,nm,vm,rfl,hP,t1⟩;obtain ⟨am,km,cm,rfl⟩:=hP.form;have HP:=zH hP;clear hP;have B1:=HB0.out.keep t1;obtain ⟨g0,g1,g2⟩:=B1.c3;obtain ⟨p0,p1,p2⟩:=B1.f3;have Yf:=((B1.set 0 (.int .i64 n1)).set 1 (.string nm)).set 2 (.slice am km cm);simp only [List.set] at Yf;obtain ⟨r0,r1,r2⟩:=Yf.c3;clear Yf B1)
  | fail)
 have kst:Only [w.heap.size] w1 (((w1.setCell ⟨w.heap.size,0,none⟩ (.int .i64 n1)).setCell ⟨w.heap.size,1,none⟩ (.string nm)).setCell ⟨w.heap.size,2,none⟩ (.slice am km cm)):=((zO.setCell (by simp) _).setCell (by simp) _).setCell (by simp) _
 have hz:=Hsz.out
 exact bodyPost_ret (v:=.tuple #[.agg #[.int .i64 n1,.string nm,.slice am km cm],.bool true]) (by simp [results,Tryz.results145,go_sem,r0,r1,r2]) rfl (PzE2.mk ((HP.out.only kst (fun b hb=>by simp at hb;omega)).mono (by omega)) ((Hk.out.trans t1).then_ kst (fun b hb hl=>by simp at hb;omega)))
set_option maxHeartbeats 4000000 in
theorem Zow (w:World):Calls Tryz.prog 145 #[.int .i64 4] w (PzE2 27 w):=by
 have hB0:=Blk.new w [.int .i64 0,.string ⟨#[]⟩,.slice none 0 0] 26
 have ho:Only [] w ((w.alloc (.cells #[.int .i64 0,.string ⟨#[]⟩,.slice none 0 0] 26)).alloc (.cells #[.string ⟨#[40,48,32,49,41,40,52,32,53,41]⟩,.string ⟨#[40,49,32,50,41,40,54,32,55,41]⟩,.string ⟨#[40,50,32,51,41,40,56,32,57,41]⟩,.string ⟨#[40,48,32,51,41,40,49,48,32,49,49,41]⟩] 9)):=(zO.alloc _).alloc _
 have HR:Hid (Rd ((w.alloc (.cells #[.int .i64 0,.string ⟨#[]⟩,.slice none 0 0] 26)).alloc (.cells #[.string ⟨#[40,48,32,49,41,40,52,32,53,41]⟩,.string ⟨#[40,49,32,50,41,40,54,32,55,41]⟩,.string ⟨#[40,50,32,51,41,40,56,32,57,41]⟩,.string ⟨#[40,48,32,51,41,40,49,48,32,49,49,41]⟩] 9)) (.slice (some ⟨w.heap.size + 1,0,none⟩) 4 4) [(⟨#[40,48,32,49,41,40,52,32,53,41]⟩:ByteArray),(⟨#[40,49,32,50,41,40,54,32,55,41]⟩:ByteArray),(⟨#[40,50,32,51,41,40,56,32,57,41]⟩:ByteArray),(⟨#[40,48,32,51,41,40,49,48,32,49,49,41]⟩:ByteArray)] [w.heap.size + 1]):=zH (Zdp _ [(⟨#[40,48,32,49,41,40,52,32,53,41]⟩:ByteArray),(⟨#[40,49,32,50,41,40,54,32,55,41]⟩:ByteArray),(⟨#[40,50,32,51,41,40,56,32,57,41]⟩:ByteArray),(⟨#[40,48,32,51,41,40,49,48,32,49,49,41]⟩:ByteArray)] 9 (by simp) rfl rfl (by decide) (by decide))
 have Hs:Hid (∀ x∈[(⟨#[40,48,32,49,41,40,52,32,53,41]⟩:ByteArray),(⟨#[40,49,32,50,41,40,54,32,55,41]⟩:ByteArray),(⟨#[40,50,32,51,41,40,56,32,57,41]⟩:ByteArray),(⟨#[40,48,32,51,41,40,49,48,32,49,49,41]⟩:ByteArray)],2<=x.size/\x.size<=100):=zH (by decide)
 have HC:Hid (Calls Tryz.prog 204 #[.int .i64 12,.slice (some ⟨w.heap.size + 1,0,none⟩) 4 4] ((w.alloc (.cells #[.int .i64 0,.string ⟨#[]⟩,.slice none 0 0] 26)).alloc (.cells #[.string ⟨#[40,48,32,49,41,40,52,32,53,41]⟩,.string ⟨#[40,49,32,50,41,40,54,32,55,41]⟩,.string ⟨#[40,50,32,51,41,40,56,32,57,41]⟩,.string ⟨#[40,48,32,51,41,40,49,48,32,49,49,41]⟩] 9)) (PzE 27 ((w.alloc (.cells #[.int .i64 0,.string ⟨#[]⟩,.slice none 0 0] 26)).alloc (.cells #[.string ⟨#[40,48,32,49,41,40,52,32,53,41]⟩,.string ⟨#[40,49,32,50,41,40,54,32,55,41]⟩,.string ⟨#[40,50,32,51,41,40,56,32,57,41]⟩,.string ⟨#[40,48,32,51,41,40,49,48,32,49,49,41]⟩] 9)))):=zH (Zcb 12 _ _ _ _ (by decide) HR.out (by decide) Hs.out)
 have hsz:w.heap.size + 2<=((w.alloc (.cells #[.int .i64 0,.string ⟨#[]⟩,.slice none 0 0] 26)).alloc (.cells #[.string ⟨#[40,48,32,49,41,40,52,32,53,41]⟩,.string ⟨#[40,49,32,50,41,40,54,32,55,41]⟩,.string ⟨#[40,50,32,51,41,40,56,32,57,41]⟩,.string ⟨#[40,48,32,51,41,40,49,48,32,49,49,41]⟩] 9)).heap.size:=by simp
 have HB0:=zH (hB0.keep (zO.alloc (.cells #[.string ⟨#[40,48,32,49,41,40,52,32,53,41]⟩,.string ⟨#[40,49,32,50,41,40,54,32,55,41]⟩,.string ⟨#[40,50,32,51,41,40,56,32,57,41]⟩,.string ⟨#[40,48,32,51,41,40,49,48,32,49,49,41]⟩] 9)))
 have Hk:=zH ho
 have Hsz:=zH hsz
 clear HR Hs hB0 ho hsz
 go_enter Tryz.func145,Tryz.ntmps145
 go_wp2_with (first
  | (go_at_call 204;(with_reducible refine (HC.out).mono ?_);rintro e w1 ⟨n1,nm,vm,rfl,hP,t1⟩;obtain ⟨am,km,cm,rfl⟩:=hP.form;have HP:=zH hP;clear hP;have B1:=HB0.out.keep t1;obtain ⟨g0,g1,g2⟩:=B1.c3;obtain ⟨p0,p1,p2⟩:=B1.f3;have Yf:=((B1.set 0 (.int .i64 n1)).set 1 (.string nm)).set 2 (.slice am km cm);simp only [List.set] at Yf;obtain ⟨r0,r1,r2⟩:=Yf.c3;clear Yf B1)
  | fail)
 have kst:Only [w.heap.size] w1 (((w1.setCell ⟨w.heap.size,0,none⟩ (.int .i64 n1)).setCell ⟨w.heap.size,1,none⟩ (.string nm)).setCell ⟨w.heap.size,2,none⟩ (.slice am km cm)):=((zO.setCell (by simp) _).setCell (by simp) _).setCell (by simp) _
 have hz:=Hsz.out
 exact bodyPost_ret (v:=.tuple #[.agg #[.int .i64 n1,.string nm,.slice am km cm],.bool true]) (by simp [results,Tryz.results145,go_sem,r0,r1,r2]) rfl (PzE2.mk ((HP.out.only kst (fun b hb=>by simp at hb;omega)).mono (by omega)) ((Hk.out.trans t1).then_ kst (fun b hb hl=>by simp at hb;omega)))
set_option maxHeartbeats 4000000 in
theorem Zoh (w:World):Calls Tryz.prog 145 #[.int .i64 5] w (PzE2 27 w):=by
 have hB0:=Blk.new w [.int .i64 0,.string ⟨#[]⟩,.slice none 0 0] 26
 have ho:Only [] w ((w.alloc (.cells #[.int .i64 0,.string ⟨#[]⟩,.slice none 0 0] 26)).alloc (.cells #[.string ⟨#[40,48,32,49,32,50,41,40,51,32,54,32,57,41]⟩,.string ⟨#[40,48,32,55,32,49,48,41,40,51,32,52,32,53,41]⟩,.string ⟨#[40,49,32,52,32,49,49,41,40,54,32,55,32,56,41]⟩,.string ⟨#[40,50,32,53,32,56,41,40,57,32,49,48,32,49,49,41]⟩] 9)):=(zO.alloc _).alloc _
 have HR:Hid (Rd ((w.alloc (.cells #[.int .i64 0,.string ⟨#[]⟩,.slice none 0 0] 26)).alloc (.cells #[.string ⟨#[40,48,32,49,32,50,41,40,51,32,54,32,57,41]⟩,.string ⟨#[40,48,32,55,32,49,48,41,40,51,32,52,32,53,41]⟩,.string ⟨#[40,49,32,52,32,49,49,41,40,54,32,55,32,56,41]⟩,.string ⟨#[40,50,32,53,32,56,41,40,57,32,49,48,32,49,49,41]⟩] 9)) (.slice (some ⟨w.heap.size + 1,0,none⟩) 4 4) [(⟨#[40,48,32,49,32,50,41,40,51,32,54,32,57,41]⟩:ByteArray),(⟨#[40,48,32,55,32,49,48,41,40,51,32,52,32,53,41]⟩:ByteArray),(⟨#[40,49,32,52,32,49,49,41,40,54,32,55,32,56,41]⟩:ByteArray),(⟨#[40,50,32,53,32,56,41,40,57,32,49,48,32,49,49,41]⟩:ByteArray)] [w.heap.size + 1]):=zH (Zdp _ [(⟨#[40,48,32,49,32,50,41,40,51,32,54,32,57,41]⟩:ByteArray),(⟨#[40,48,32,55,32,49,48,41,40,51,32,52,32,53,41]⟩:ByteArray),(⟨#[40,49,32,52,32,49,49,41,40,54,32,55,32,56,41]⟩:ByteArray),(⟨#[40,50,32,53,32,56,41,40,57,32,49,48,32,49,49,41]⟩:ByteArray)] 9 (by simp) rfl rfl (by decide) (by decide))
 have Hs:Hid (∀ x∈[(⟨#[40,48,32,49,32,50,41,40,51,32,54,32,57,41]⟩:ByteArray),(⟨#[40,48,32,55,32,49,48,41,40,51,32,52,32,53,41]⟩:ByteArray),(⟨#[40,49,32,52,32,49,49,41,40,54,32,55,32,56,41]⟩:ByteArray),(⟨#[40,50,32,53,32,56,41,40,57,32,49,48,32,49,49,41]⟩:ByteArray)],2<=x.size/\x.size<=100):=zH (by decide)
 have HC:Hid (Calls Tryz.prog 204 #[.int .i64 12,.slice (some ⟨w.heap.size + 1,0,none⟩) 4 4] ((w.alloc (.cells #[.int .i64 0,.string ⟨#[]⟩,.slice none 0 0] 26)).alloc (.cells #[.string ⟨#[40,48,32,49,32,50,41,40,51,32,54,32,57,41]⟩,.string ⟨#[40,48,32,55,32,49,48,41,40,51,32,52,32,53,41]⟩,.string ⟨#[40,49,32,52,32,49,49,41,40,54,32,55,32,56,41]⟩,.string ⟨#[40,50,32,53,32,56,41,40,57,32,49,48,32,49,49,41]⟩] 9)) (PzE 27 ((w.alloc (.cells #[.int .i64 0,.string ⟨#[]⟩,.slice none 0 0] 26)).alloc (.cells #[.string ⟨#[40,48,32,49,32,50,41,40,51,32,54,32,57,41]⟩,.string ⟨#[40,48,32,55,32,49,48,41,40,51,32,52,32,53,41]⟩,.string ⟨#[40,49,32,52,32,49,49,41,40,54,32,55,32,56,41]⟩,.string ⟨#[40,50,32,53,32,56,41,40,57,32,49,48,32,49,49,41]⟩] 9)))):=zH (Zcb 12 _ _ _ _ (by decide) HR.out (by decide) Hs.out)
 have hsz:w.heap.size + 2<=((w.alloc (.cells #[.int .i64 0,.string ⟨#[]⟩,.slice none 0 0] 26)).alloc (.cells #[.string ⟨#[40,48,32,49,32,50,41,40,51,32,54,32,57,41]⟩,.string ⟨#[40,48,32,55,32,49,48,41,40,51,32,52,32,53,41]⟩,.string ⟨#[40,49,32,52,32,49,49,41,40,54,32,55,32,56,41]⟩,.string ⟨#[40,50,32,53,32,56,41,40,57,32,49,48,32,49,49,41]⟩] 9)).heap.size:=by simp
 have HB0:=zH (hB0.keep (zO.alloc (.cells #[.string ⟨#[40,48,32,49,32,50,41,40,51,32,54,32,57,41]⟩,.string ⟨#[40,48,32,55,32,49,48,41,40,51,32,52,32,53,41]⟩,.string ⟨#[40,49,32,52,32,49,49,41,40,54,32,55,32,56,41]⟩,.string ⟨#[40,50,32,53,32,56,41,40,57,32,49,48,32,49,49,41]⟩] 9)))
 have Hk:=zH ho
 have Hsz:=zH hsz
 clear HR Hs hB0 ho hsz
 go_enter Tryz.func145,Tryz.ntmps145
 go_wp2_with (first
  | (go_at_call 204;(with_reducible refine (HC.out).mono ?_);rintro e w1 ⟨n1,nm,vm,rfl,hP,t1⟩;obtain ⟨am,km,cm,rfl⟩:=hP.form;have HP:=zH hP;clear hP;have B1:=HB0.out.keep t1;obtain ⟨g0,g1,g2⟩:=B1.c3;obtain ⟨p0,p1,p2⟩:=B1.f3;have Yf:=((B1.set 0 (.int .i64 n1)).set 1 (.string nm)).set 2 (.slice am km cm);simp only [List.set] at Yf;obtain ⟨r0,r1,r2⟩:=Yf.c3;clear Yf B1)
  | fail)
 have kst:Only [w.heap.size] w1 (((w1.setCell ⟨w.heap.size,0,none⟩ (.int .i64 n1)).setCell ⟨w.heap.size,1,none⟩ (.string nm)).setCell ⟨w.heap.size,2,none⟩ (.slice am km cm)):=((zO.setCell (by simp) _).setCell (by simp) _).setCell (by simp) _
 have hz:=Hsz.out
 exact bodyPost_ret (v:=.tuple #[.agg #[.int .i64 n1,.string nm,.slice am km cm],.bool true]) (by simp [results,Tryz.results145,go_sem,r0,r1,r2]) rfl (PzE2.mk ((HP.out.only kst (fun b hb=>by simp at hb;omega)).mono (by omega)) ((Hk.out.trans t1).then_ kst (fun b hb hl=>by simp at hb;omega)))
theorem Zli (k:Int) (w:World) (h0:0<=k) (h5:k<=5):Calls Tryz.prog 145 #[.int .i64 k] w (PzE2 27 w):=by
 have:k = 0\/k = 1\/k = 2\/k = 3\/k = 4\/k = 5:=by omega
 rcases this with rfl | rfl | rfl | rfl | rfl | rfl
 ·exact Zhr w
 ·exact Zoe w
 ·exact Zou w
 ·exact Zon w
 ·exact Zow w
 ·exact Zoh w
def PzS (eS:TypeId) (w:World) (g:Nat) (fc:List Nat) (l:List UInt8) (e:Ending) (w':World):Prop:=∃ (n:Int) (nm:ByteArray) (vm:Value),e = .returned (.agg #[.int .i64 n,.string nm,vm])/\PzO eS w.heap.size w' n nm vm/\Src w' g fc l/\Only [g] w w'
theorem PzS.mk {eS:TypeId} {w w':World} {g:Nat} {fc:List Nat} {l:List UInt8} {n:Int} {nm:ByteArray} {vm:Value} (h:PzO eS w.heap.size w' n nm vm) (D:Src w' g fc l) (k:Only [g] w w'):PzS eS w g fc l (.returned (.agg #[.int .i64 n,.string nm,vm])) w':=⟨n,nm,vm,rfl,h,D,k⟩
set_option maxHeartbeats 8000000 in
theorem Zms (g:Nat) (fc:List Nat) (l:List UInt8) (w:World) (h:Src w g fc l) (hl:l.length<=4096) :
  Calls Tryz.prog 144 #[.pointer (some ⟨g,0,none⟩)] w (PzS 27 w g fc l):=by
 have hg:=h.lt
 have hfc:∀ b∈fc,b < w.heap.size:=by obtain ⟨_,_,_,_,_,_,_,h4,_⟩:=h;exact fun b hb=>Rp.lt h4 b hb
 have hB0:=Blk.new w [.int .i64 0,.string ⟨#[]⟩,.slice none 0 0] 26
 have ho:Only [] w (w.alloc (.cells #[.int .i64 0,.string ⟨#[]⟩,.slice none 0 0] 26)):=zO.alloc _
 have hsz0:(w.alloc (.cells #[.int .i64 0,.string ⟨#[]⟩,.slice none 0 0] 26)).heap.size = w.heap.size + 1:=by simp
 have Hsz0:=zH hsz0
 clear hsz0
 go_enter Tryz.func144,Tryz.ntmps144
 go_wp2_with (first
  | (go_at_call 84;(with_reducible refine (Zbf g fc l 4 _ (h.keep ho) hl (by omega)).mono ?_);rintro e w1 ⟨b1,rfl,D1,K1⟩;have B1:=hB0.only K1 (by simp;omega);have k1:Only [g] w w1:=(ho.weaken [g]).trans K1;have s1:w.heap.size + 1<=w1.heap.size:=(by have:=K1.size;rw [Hsz0.out] at this;exact this))
  | (go_at_call 145;(with_reducible refine (Zhr w1).mono ?_);rintro e w2 ⟨n1,nm,vm,b2,rfl,hP,t2⟩;obtain ⟨am,km,cm,rfl⟩:=hP.form;have HP:=zH hP;clear hP;have B2:=(B1.keep t2).keep (zO.alloc (.cells #[.int .i64 n1,.string nm,.slice am km cm] 26));obtain ⟨g0,g1,g2⟩:=B2.c3;obtain ⟨p0,p1,p2⟩:=B2.f3;have Yf:=((B2.set 0 (.int .i64 n1)).set 1 (.string nm)).set 2 (.slice am km cm);simp only [List.set] at Yf;obtain ⟨r0,r1,r2⟩:=Yf.c3;clear Yf)
  | (go_at_call 202;(with_reducible refine (Zra g fc l 2 5 w1 D1 hl (by omega) (by omega) (by omega)).mono ?_);rintro e w2 ⟨n0,rfl,n02,n05,D2,K2⟩;obtain ⟨m,rfl⟩:=Int.eq_ofNat_of_zero_le (show 0<=n0 by omega);have B2:=B1.only K2 (by simp;omega))
  | (go_at_call 203;(with_reducible refine (Zpc g fc l m w2 D2 hl ⟨by omega,by omega⟩).mono ?_);rintro e w3 ⟨v3,gs,fs,rfl,A3,F3,hgl,D3,K3⟩;obtain ⟨am,cm,rfl⟩:=A3.form;have hgl0:=hgl.1;have hgL:=zH hgl;have hg8:(gs.length:Int)<=8:=(by omega);have hg00:(0:Int)<=(gs.length:Int):=(by omega);have B3:=B2.only K3 (by simp;omega);obtain ⟨g0,g1,g2⟩:=B3.c3;obtain ⟨p0,p1,p2⟩:=B3.f3;clear hgl)
  | fail)
 ·have kst:Only [w.heap.size] (w2.alloc (.cells #[.int .i64 n1,.string nm,.slice am km cm] 26)) ((((w2.alloc (.cells #[.int .i64 n1,.string nm,.slice am km cm] 26)).setCell ⟨w.heap.size,0,none⟩ (.int .i64 n1)).setCell ⟨w.heap.size,1,none⟩ (.string nm)).setCell ⟨w.heap.size,2,none⟩ (.slice am km cm)):=((zO.setCell (by simp) _).setCell (by simp) _).setCell (by simp) _
  have kal:Only [] w2 (w2.alloc (.cells #[.int .i64 n1,.string nm,.slice am km cm] 26)):=zO.alloc _
  exact bodyPost_ret (v:=.agg #[.int .i64 n1,.string nm,.slice am km cm]) (by simp [results,Tryz.results144,go_sem,r0,r1,r2]) rfl (PzS.mk (((HP.out.keep kal).only kst (fun b hb=>by simp at hb;omega)).mono (by omega)) (((D1.keep t2).keep kal).only kst (by simp;omega) (fun b hb hm=>by have:=hfc b hb;simp at hm;omega)) (((k1.trans (t2.weaken _)).trans (kal.weaken _)).then_ kst (fun b hb hl=>by simp at hb;omega)))
 ·obtain ⟨nm,hnm⟩:∃ nm,nm = (⟨#[65,66,67,68,69,70,71,72]⟩:ByteArray).extract 0 gs.length:=⟨_,rfl⟩
  rw [<- hnm]
  have hnl:nm.size<=8:=by rw [hnm];exact Zbh _ _ _
  have kst:Only [w.heap.size] w3 (((w3.setCell ⟨w.heap.size,0,none⟩ (.int .i64 m)).setCell ⟨w.heap.size,1,none⟩ (.string nm)).setCell ⟨w.heap.size,2,none⟩ (.slice am gs.length cm)):=((zO.setCell (by simp) _).setCell (by simp) _).setCell (by simp) _
  have Yf:=((B3.set 0 (.int .i64 m)).set 1 (.string nm)).set 2 (.slice am gs.length cm)
  simp only [List.set] at Yf
  obtain ⟨r0,r1,r2⟩:=Yf.c3
  have hP:PzO 27 w2.heap.size w3 m nm (.slice am gs.length cm):=⟨gs,fs,A3,F3,by omega,hnl,by omega,fun y hy=>by rw [hgL.out.2 y hy];omega⟩
  have s2:=K2.size
  exact bodyPost_ret (v:=.agg #[.int .i64 m,.string nm,.slice am gs.length cm]) (by simp [results,Tryz.results144,go_sem,r0,r1,r2]) rfl (PzS.mk ((hP.only kst (fun b hb=>by simp at hb;omega)).mono (by omega)) (D3.only kst (by simp;omega) (fun b hb hm=>by have:=hfc b hb;simp at hm;omega)) ((k1.trans (K2.trans K3)).then_ kst (fun b hb hl=>by simp at hb;omega)))
structure BBs (base:Nat) (w:World) (a:Option Addr) (c:Nat) (l:List Int):Prop where
 len:l.length<=c
 cap:c<=maxLen
 rng:∀ x∈l,0<=x/\x < 256
 fm:(a = none/\l = [])\/∃ g,a = some ⟨g,0,none⟩/\base<=g/\g < w.heap.size/\∀ j (h:j < l.length),w.cell? ⟨g,j,none⟩ = some (.int .u8 l[j])/\w.frozen? ⟨g,j,none⟩ = false
theorem Zll {w w':World} {p:Addr} (h:w'.heap[p.block]? = w.heap[p.block]?):w'.frozen? p = w.frozen? p:=by
 simp only [World.frozen?,h]
theorem BBs.only {base:Nat} {w w':World} {a:Option Addr} {c:Nat} {l:List Int} {fp:List Nat} (h:BBs base w a c l) (ho:Only fp w w') (hd:∀ b∈fp,b < base):BBs base w' a c l:=by
 refine ⟨h.len,h.cap,h.rng,?_⟩
 rcases h.fm with h1 | ⟨g,h1,h2,h3,h4⟩
 ·exact .inl h1
 ·have hn:g ∉ fp:=fun hm=>by have:=hd g hm;omega
  refine .inr ⟨g,h1,h2,Nat.lt_of_lt_of_le h3 ho.size,fun j hj=>⟨ho.cell hn (h4 j hj).1,?_⟩⟩
  rw [Zll (ho.block g h3 hn)]
  exact (h4 j hj).2
theorem BBs.take {base:Nat} {w:World} {a:Option Addr} {c:Nat} {l:List Int} (h:BBs base w a c l) (k:Nat) (hk:k<=l.length):BBs base w a c (l.take k):=by
 refine ⟨by rw [List.length_take];have:=h.len;omega,h.cap,fun x hx=>h.rng x (List.mem_of_mem_take hx),?_⟩
 rcases h.fm with ⟨h1,h2⟩ | ⟨g,h1,h2,h3,h4⟩
 ·exact .inl ⟨h1,by rw [h2];simp⟩
 ·refine .inr ⟨g,h1,h2,h3,fun j hj=>?_⟩
  rw [List.length_take] at hj
  have:=h4 j (by omega)
  rwa [List.getElem_take]
theorem BBs.put {base:Nat} {w:World} {g c:Nat} {l:List Int} (h:BBs base w (some ⟨g,0,none⟩) c l) {k:Nat} (hk:k < l.length) {x:Int} (hx:0<=x/\x < 256):BBs base (w.setCell ⟨g,k,none⟩ (.int .u8 x)) (some ⟨g,0,none⟩) c (l.set k x):=by
 refine ⟨by rw [List.length_set];exact h.len,h.cap,fun y hy=>?_,?_⟩
 ·rcases List.mem_or_eq_of_mem_set hy with h1 | rfl
  ·exact h.rng y h1
  ·exact hx
 ·rcases h.fm with ⟨h1,-⟩ | ⟨g',h1,h2,h3,h4⟩
  ·cases h1
  ·injection h1 with h1
   injection h1 with h1 _ _
   subst h1
   refine .inr ⟨g,rfl,h2,by simpa [World.setCell] using h3,fun j hj=>?_⟩
   rw [List.length_set] at hj
   have c0:=h4 j hj
   have ck:=h4 k hk
   refine ⟨?_,?_⟩
   ·by_cases e:k = j
    ·subst e
     rw [List.getElem_set_self]
     exact World.cell?_setCell_same _ _ _ ck.1
    ·rw [List.getElem_set_ne e]
     have hne:(⟨g,j,none⟩:Addr) ≠ ⟨g,k,none⟩:=by intro e2;injection e2 with _ e2 _;exact e e2.symm
     rw [World.cell?_setCell_other _ _ _ _ hne.symm];exact c0.1
   ·rw [World.frozen?_setCell];exact c0.2
theorem BBs.at_ {base:Nat} {w:World} {g c:Nat} {l:List Int} (h:BBs base w (some ⟨g,0,none⟩) c l) {j:Nat} (hj:j < l.length):w.cell? ⟨g,j,none⟩ = some (.int .u8 l[j])/\w.frozen? ⟨g,j,none⟩ = false:=by
 rcases h.fm with ⟨h1,-⟩ | ⟨g',h1,h2,h3,h4⟩
 ·cases h1
 ·injection h1 with h1
  injection h1 with h1 _ _
  subst h1
  exact h4 j hj
theorem BBs.ofRow {base B:Nat} {w:World} {e:TypeId} {v:Value} {l:List Int} (h:w.ownsRow B e 1 v l.length (l.map (Value.int .u8))) (hB:base<=B) (hr:∀ x∈l,0<=x/\x < 256):∃ a c,v = .slice a l.length c/\BBs base w a c l:=by
 have h0:=h
 rcases h.2 with ⟨h1,h2⟩ | ⟨g,cap,cur,h1,hb,hg,h5,h6,-⟩
 ·have hl0:l = []:=List.length_eq_zero_iff.1 h2
  exact ⟨none,0,by rw [h1,h2],by rw [h2];exact Nat.le_refl _,by simp [maxLen],hr,.inl ⟨rfl,hl0⟩⟩
 ·refine ⟨_,cap,h1,h5,h6,hr,.inr ⟨g,rfl,Nat.le_trans hB hb,(Array.getElem?_eq_some_iff.1 hg).1,fun j hj=>?_⟩⟩
  rw [h1] at h0
  refine ⟨?_,h0.frozenAt j⟩
  rw [h0.cellAt j (by omega)]
  simp [hj]
theorem BBs.src {base:Nat} {w:World} {g c:Nat} {l:List Int} (h:BBs base w (some ⟨g,0,none⟩) c l) (k:Nat):∀ ad,some (⟨g,k,none⟩:Addr) = some ad->∀ j u,((l.drop k).map (Value.int .u8))[j]? = some u->w.cell? (ad.add j) = some u:=by
 intro ad had j u hu
 injection had with had
 subst had
 rcases h.fm with ⟨h1,-⟩ | ⟨g',h1,h2,h3,h4⟩
 ·cases h1
 ·injection h1 with h1
  injection h1 with h1 _ _
  subst h1
  have hadd:(⟨g,k,none⟩:Addr).add j = ⟨g,k + j,none⟩:=by unfold Addr.add;split <;> simp_all
  rw [hadd]
  rw [List.getElem?_map,List.getElem?_drop] at hu
  obtain ⟨x,hx,rfl⟩:=Option.map_eq_some_iff.1 hu
  obtain ⟨hlt,rfl⟩:=List.getElem?_eq_some_iff.1 hx
  exact (h4 _ hlt).1
theorem BBs.srcT {base:Nat} {w:World} {g c:Nat} {l:List Int} (h:BBs base w (some ⟨g,0,none⟩) c l) (k:Nat) (hk:k<=l.length):∀ ad,some (⟨g,0,none⟩:Addr) = some ad->∀ j u,((l.take k).map (Value.int .u8))[j]? = some u->w.cell? (ad.add j) = some u:=by
 have h2:=(h.take k hk).src 0
 rwa [List.drop_zero] at h2
theorem bb_one (l:List Int):∀ u∈l.map (Value.int .u8),u.oneCell' = true:=by
 intro u hu
 obtain ⟨x,-,rfl⟩:=List.mem_map.1 hu
 rfl
theorem rowOnly {w w':World} {B:Nat} {e:TypeId} {size n:Nat} {v:Value} {xs:List Value} {fp:List Nat} (h:w.ownsRow B e size v n xs) (ho:Only fp w w') (hd:∀ b∈fp,b < B):w'.ownsRow B e size v n xs:=by
 refine ⟨h.1,?_⟩
 rcases h.2 with ⟨rfl,h0⟩ | ⟨g,cp,cur,rfl,hb,hg,hrest⟩
 ·exact .inl ⟨rfl,h0⟩
 ·exact .inr ⟨g,cp,cur,rfl,hb,by rw [ho.block g (Array.getElem?_eq_some_iff.1 hg).1 (fun hm=>by have:=hd g hm;omega)];exact hg,hrest⟩
theorem BBs.str {P:Program} {base:Nat} {w:World} {a:Option Addr} {c:Nat} {l:List Int} (h:BBs base w a c l) (src e:TypeId) (hs:P.underlying src = some (.slice e)) (he:P.underlying e = some (.int .u8)) (dst:TypeId) (hd:P.underlying dst = some .string) :
  (convert src dst (.slice a l.length c)).run P w = .ok (.string (strOfNums l)) w:=by
 rcases h.fm with ⟨rfl,rfl⟩ | ⟨g,rfl,h2,h3,h4⟩
 ·exact run_convert_bytes_nil (w:=w) src e hs he _ _ dst hd
 ·exact run_convert_bytes_arg (P:=P) w src e hs he g 0 l.length c l rfl (fun i hi=>by
   rw [Nat.zero_add,(h4 i hi).1,List.getD_eq_getElem?_getD,List.getElem?_eq_getElem hi];rfl) dst hd
theorem strOfNums_size (l:List Int):(strOfNums l).size = l.length:=by unfold strOfNums;simp [ByteArray.size]
theorem Tryz.infoU8c:(Tryz.prog.info? 5).map (fun i=>(i.zero,i.size,i.bytes)) = some (some (.int .u8 0),1,1):=by kernel_rfl
theorem BBs.made (w:World) (s:ByteArray) (hs:s.size<=1000000):BBs w.heap.size (Lib.bytesWorld w 5 s) (some ⟨w.heap.size,0,none⟩) (grownCap w s.size 0 5) (s.data.toList.map fun b=>(b.toNat:Int)):=by
 have hsz:(s.data.toList.map fun b=>(b.toNat:Int)).length = s.size:=by rw [List.length_map];rfl
 refine ⟨by rw [hsz];exact grownCap_ge _ _ _ _,grownCap_le_maxLen _ _ _ _ (by unfold maxLen;omega),fun x hx=>?_,.inr ⟨_,rfl,Nat.le_refl _,by rw [Lib.bytesWorld_size];omega,fun j hj=>⟨?_,?_⟩⟩⟩
 ·obtain ⟨b,-,rfl⟩:=List.mem_map.1 hx
  have:=UInt8.toNat_lt b
  omega
 ·rw [hsz] at hj
  rw [Lib.bytesWorld_cell w 5 s j hj]
  congr 2
  have hj2:j < s.data.toList.length:=by simpa using hj
  rw [List.getD_eq_getElem?_getD,List.getElem?_eq_getElem hj2,List.getElem_map]
  rfl
 ·rw [hsz] at hj
  have hb:s.size<=(Lib.bytesCells w 5 s).size:=by simp [Lib.bytesCells]
  simp [World.frozen?,Lib.bytesWorld_at_new]
  omega
theorem Zkm (w:World) (s:ByteArray):Only [] w (Lib.bytesWorld w 5 s):=
 ⟨rfl,rfl,rfl,by rw [Lib.bytesWorld_size];omega,fun k hk _=>Lib.bytesWorld_at_old w 5 s k hk⟩
set_option maxHeartbeats 16000000 in
theorem Zqp (g:Nat) (fc:List Nat) (l:List UInt8) (s al:ByteArray) (w:World) (h:Src w g fc l) (hl:l.length<=4096) (hs:s.size<=1000000) (ha1:1<=al.size) (ha2:al.size<=1000) :
  Calls Tryz.prog 146 #[.pointer (some ⟨g,0,none⟩),.string s,.string al] w fun e w'=>∃ t,e = .returned (.string t)/\t.size<=s.size + 3/\Src w' g fc l/\Only [g] w w':=by
 obtain ⟨i0,hi,hz0,hz1,hz2⟩:=info_parts Tryz.infoU8c
 have hg:=h.lt
 have hfc:∀ b∈fc,b < w.heap.size:=by obtain ⟨_,_,_,_,_,_,_,h4,_⟩:=h;exact fun b hb=>Rp.lt h4 b hb
 have hcv:=Lib.run_convert_string_bytes (P:=Tryz.prog) w 9 22 5 s Tryz.underlying9 Tryz.underlying22 Tryz.underlying5
 have hM:=BBs.made w s hs
 have hm:=Zkm w s
 obtain ⟨W1,hW1⟩:∃ W,W = Lib.bytesWorld w 5 s:=⟨_,rfl⟩
 obtain ⟨bs,hbs⟩:∃ bs,bs = s.data.toList.map fun b=>(b.toNat:Int):=⟨_,rfl⟩
 have hbl:bs.length = s.size:=by rw [hbs,List.length_map];rfl
 rw [<- hW1] at hcv hm hM
 rw [<- hbs,<- hbl] at hM
 rw [<- hbl] at hcv hs
 obtain ⟨cp,hcp⟩:∃ cp,cp = grownCap w bs.length 0 5:=⟨_,rfl⟩
 rw [<- hcp] at hcv hM
 have Hbl:=zH hbl
 have hal0:(1:Int)<=(al.size:Int):=by omega
 clear hW1 hbs hbl hcp
 go_enter Tryz.func146,Tryz.ntmps146
 go_wp2_with (first
  | (go_at_call 83;(with_reducible refine (Zae g fc l 3 W1 (h.keep hm) hl (by omega)).mono ?_);rintro e w2 ⟨k,rfl,k0,k3,D2,K2⟩;have hM2:=hM.only K2 (by simp;omega);have k2:Only [g] w w2:=(hm.weaken [g]).trans K2)
  | fail)
 have hk3:k<=3:=by omega
 clear hM hm K2 k3 hcv
 go_loopw [7,8] (fun o x wr=>∃ (k:Int) (a:Option Addr) (c:Nat) (q:List Int),o = .slice a q.length c/\x = .int .i64 k/\0<=k/\(q.length:Int) + k<=s.size + 3/\BBs w.heap.size wr a c q/\Src wr g fc l/\Only [g] w wr)
  (fun _ x _=>(intOf x).toNat)
 case atStart=>exact ⟨k,_,cp,bs,rfl,rfl,k0,by rw [Hbl.out];omega,hM2,D2,k2⟩
 case round=>
  obtain ⟨W2,hnew⟩:∃ W,W = wr:=⟨_,rfl⟩
  subst hnew
  clear hM2 D2 k2 k0 hk3
  obtain ⟨k,a,c,q,rfl,rfl,k0,hqk,hM,hD,hO⟩:=hrel
  have hsl:s.size<=1000000:=by rw [<- Hbl.out];exact hs
  have hqc:=hM.len
  have hcm:=hM.cap
  unfold maxLen at hcm
  by_cases hgo:0 < k/\0 < q.length
  ·obtain ⟨h1,h2⟩:=hgo
   have h2I:(0:Int) < (q.length:Int):=by omega
   have hw:IntKind.i64.wrap (k - 1) = k - 1:=by rw [IntKind.wrap_i64];omega
   obtain ⟨gb,rfl,hgb,-⟩:∃ gb,a = some ⟨gb,0,none⟩/\w.heap.size<=gb/\True:=by
    rcases hM.fm with ⟨-,e⟩ | ⟨gb,e,e2,-⟩
    ·rw [e] at h2;simp at h2
    ·exact ⟨gb,e,e2,trivial⟩
   go_upto_region 7 with (first
    | (go_at_call 83;(with_reducible refine (Zae g fc l (q.length:Int) W2 hD hl (by omega)).mono ?_);rintro e w3 ⟨x3,rfl,x30,x31,D3,K3⟩;have hM3:=hM.only K3 (by simp;omega))
    | (go_at_call 83;(with_reducible refine (Zae g fc l 4 w3 D3 hl (by omega)).mono ?_);rintro e w4 ⟨r,rfl,r0,r1,D4,K4⟩;have hM4:=hM3.only K4 (by simp;omega))
    | fail)
   obtain ⟨m,rfl⟩:=Int.eq_ofNat_of_zero_le x30
   have hmq:m < q.length:=by omega
   have hm0:(0:Int)<=(m:Int):=by omega
   have hmI:(m:Int) < (q.length:Int):=by omega
   have K24:=hO.trans (K3.trans K4)
   clear hM3 hM hD D3 K3 K4 x30 x31 hO
   by_cases e0:r = 0
   ·subst e0
    go_wp2_with (first
     | (go_at_call 83;(with_reducible refine (Zae g fc l (al.size:Int) w4 D4 hl (by omega)).mono ?_);rintro e w5 ⟨y,rfl,y0,y1,D5,K5⟩;obtain ⟨yn,rfl⟩:=Int.eq_ofNat_of_zero_le y0;have hyn:yn < al.size:=(by omega);have hynI:(yn:Int) < (al.size:Int):=(by omega);have hyn0:(0:Int)<=(yn:Int):=(by omega);have hM5:=hM4.only K5 (by simp;omega);obtain ⟨hc5,hf5⟩:=hM5.at_ hmq;obtain ⟨y5,hy5⟩:∃ t,w5.cell? ⟨gb,m,none⟩ = some t:=⟨_,hc5⟩;have HM5:=zH hM5;clear hM5 hc5 hM4)
     | fail)
    have hb:(al[yn].toNat:Int) < 256:=by have:=UInt8.toNat_lt al[yn];omega
    have kst:Only [gb] w5 (w5.setCell ⟨gb,m,none⟩ (.int .u8 (al[yn].toNat:Int))):=zO.setCell (by simp) _
    exact ⟨⟨k - 1,some ⟨gb,0,none⟩,c,q.set m (al[yn].toNat:Int),by rw [List.length_set],rfl,by omega,by rw [List.length_set];omega,HM5.out.put hmq ⟨by omega,hb⟩,D5.only kst (by simp;omega) (fun b hb hm=>by have:=hfc b hb;simp at hm;omega),(K24.trans K5).then_ kst (fun b hb hl=>by simp at hb;omega)⟩,by simp [intOf];omega⟩
   ·by_cases e1:r = 1
    ·subst e1
     have hmc:(m:Int)<=(c:Int):=by omega
     have hT:=hM4.take m (by omega)
     have htl:(q.take m).length = m:=by rw [List.length_take];omega
     have Htl:=zH htl
     clear htl
     go_wp2
     exact ⟨⟨k - 1,some ⟨gb,0,none⟩,c,q.take m,by rw [Htl.out],rfl,by omega,by rw [Htl.out];omega,hT,D4,K24⟩,by simp [intOf];omega⟩
    ·by_cases e2:r = 2
     ·subst e2
      have hmc:(m:Int)<=(c:Int):=by omega
      have hmn:m<=c:=by omega
      obtain ⟨mm,hmm⟩:∃ mm,mm = m + 1:=⟨_,rfl⟩
      have hw1:IntKind.i64.wrap ((m:Int) + 1) = (mm:Int):=by rw [IntKind.wrap_i64];omega
      have hmq2:(mm:Int)<=(q.length:Int):=by omega
      have hmc2:(mm:Int)<=(c:Int):=by omega
      have hmm0:(0:Int)<=(mm:Int):=by omega
      have hmql:mm<=q.length:=by omega
      have hqcI:(q.length:Int)<=(c:Int):=by omega
      have hq16:q.length<=1000010:=by omega
      have HTl:Hid (((q.take m).map (Value.int .u8)).length = m * 1):=zH (by rw [List.length_map,List.length_take];omega)
      have HDl:Hid (((q.drop mm).map (Value.int .u8)).length = (q.length - mm) * 1):=zH (by rw [List.length_map,List.length_drop];omega)
      have hrow0:(w4.alloc (.cells #[] 5)).ownsRow w4.heap.size 5 1 (.slice (some ⟨w4.heap.size,0,none⟩) 0 0) 0 []:=⟨rfl,.inr ⟨_,0,#[],rfl,Nat.le_refl _,heap_alloc_new w4 _,Nat.le_refl _,by simp [maxLen],rfl,rfl⟩⟩
      have hg4:g < w4.heap.size:=Nat.lt_of_lt_of_le hg K24.size
      have hs4:w.heap.size<=w4.heap.size:=K24.size
      have Hrow0:=zH hrow0
      have hend:∀ v6 w6,w6.ownsRow w4.heap.size 5 1 v6 (0 + m + (q.length - mm)) (([] ++ (q.take m).map (Value.int .u8)) ++ (q.drop mm).map (Value.int .u8))->Only [] w4 w6 ->
        ∃ a c q',v6 = .slice a (q':List Int).length c/\(q'.length:Int)<=q.length/\BBs w.heap.size w6 a c q'/\Src w6 g fc l/\Only [g] w w6:=fun v6 w6 hO6 ho=>by
       have hc:([] ++ (q.take m).map (Value.int .u8)) ++ (q.drop mm).map (Value.int .u8) = (q.take m ++ q.drop mm).map (Value.int .u8):=by simp
       have hn:0 + m + (q.length - mm) = (q.take m ++ q.drop mm).length:=by rw [List.length_append,List.length_take,List.length_drop];omega
       rw [hc,hn] at hO6
       obtain ⟨a6,c6,e6,hB6⟩:=BBs.ofRow hO6 hs4 (fun x hx=>by
        rcases List.mem_append.1 hx with h | h
        ·exact hM4.rng x (List.mem_of_mem_take h)
        ·exact hM4.rng x (List.mem_of_mem_drop h))
       exact ⟨a6,c6,_,e6,by rw [<- hn];omega,hB6,D4.keep ho,K24.keepThen ho⟩
      have Hend:=zH hend
      have HM4:=zH hM4
      clear hend hM4 hrow0 hmm
      by_cases hck:c = mm
      ·subst hck
       have hd0:q.drop c = []:=List.drop_eq_nil_of_le (by omega)
       have Hd0:=zH hd0
       clear hd0
       go_wp2
       go_region_law (first
        | (refine Zbo _ rfl (.tmp 47) (.tmp 50) 22 rfl w4.heap.size 5 i0 _ 1 1 Tryz.underlying22 hi hz0 hz1 hz2 rfl (by omega) (.slice (some ⟨w4.heap.size,0,none⟩) 0 0) 0 [] rfl (rowOnly (fp:=[]) Hrow0.out zC (by simp)) (some ⟨gb,0,none⟩) m c ((q.take m).map (Value.int .u8)) rfl HTl.out ((HM4.out.only (fp:=[]) zC (by simp)).srcT m (by omega)) (by intro hh;cases hh) (bb_one _) (by unfold maxLen;omega) (by omega) (Only.size (fp:=[]) zC) ?_;intro v5 w5 hO5 hg5 hb5;have o5:Only [] w4 w5:=Only.grown zC hg5 (by intro z hz hzl;have:=(Hrow0.out.lt z hz).1;omega))
        | (refine Zbo _ rfl (.tmp 51) (.tmp 55) 22 rfl w4.heap.size 5 i0 _ 1 1 Tryz.underlying22 hi hz0 hz1 hz2 rfl (by omega) v5 (0 + m) ([] ++ (q.take m).map (Value.int .u8)) rfl (rowOnly (fp:=[]) hO5 zC (by simp)) (some ⟨gb,0,none⟩) 0 0 [] rfl rfl (by intro ad hh j1 u hu;simp at hu) (by intro hh;cases hh) (by intro u hu;simp at hu) (by unfold maxLen;omega) (by omega) (Only.size (fp:=[]) zC) ?_;intro v6 w6 hO6 hg6 hb6;have o6:Only [] w4 w6:=Only.grown zC hg6 (by intro z hz hzl;have:=(hO5.lt z hz).1;omega))
        | fail)
       all_goals (
        obtain ⟨a6,c6,q6,e6,hq6,hM6,D6,K6⟩:=Hend.out v6 w6 (by have e:q.length - c = 0:=(by omega);rw [e,Hd0.out];simpa using hO6) o6
        subst e6
        go_wp2_with fail
        exact ⟨⟨k - 1,a6,c6,q6,rfl,rfl,by omega,by omega,hM6,D6,K6⟩,by simp [intOf];omega⟩)
      ·go_wp2
       go_region_law (first
        | (refine Zbo _ rfl (.tmp 47) (.tmp 50) 22 rfl w4.heap.size 5 i0 _ 1 1 Tryz.underlying22 hi hz0 hz1 hz2 rfl (by omega) (.slice (some ⟨w4.heap.size,0,none⟩) 0 0) 0 [] rfl (rowOnly (fp:=[]) Hrow0.out zC (by simp)) (some ⟨gb,0,none⟩) m c ((q.take m).map (Value.int .u8)) rfl HTl.out ((HM4.out.only (fp:=[]) zC (by simp)).srcT m (by omega)) (by intro hh;cases hh) (bb_one _) (by unfold maxLen;omega) (by omega) (Only.size (fp:=[]) zC) ?_;intro v5 w5 hO5 hg5 hb5;have o5:Only [] w4 w5:=Only.grown zC hg5 (by intro z hz hzl;have:=(Hrow0.out.lt z hz).1;omega))
        | (refine Zbo _ rfl (.tmp 51) (.tmp 55) 22 rfl w4.heap.size 5 i0 _ 1 1 Tryz.underlying22 hi hz0 hz1 hz2 rfl (by omega) v5 (0 + m) ([] ++ (q.take m).map (Value.int .u8)) rfl (rowOnly (fp:=[]) hO5 zC (by simp)) (some ⟨gb,mm,none⟩) (q.length - mm) (c - mm) ((q.drop mm).map (Value.int .u8)) rfl HDl.out ((HM4.out.only (fp:=[]) zC (by simp)).src mm) (by intro hh;cases hh) (bb_one _) (by unfold maxLen;omega) (by omega) (Only.size (fp:=[]) zC) ?_;intro v6 w6 hO6 hg6 hb6;have o6:Only [] w4 w6:=Only.grown zC hg6 (by intro z hz hzl;have:=(hO5.lt z hz).1;omega))
        | fail)
       all_goals (
        obtain ⟨a6,c6,q6,e6,hq6,hM6,D6,K6⟩:=Hend.out v6 w6 hO6 o6
        subst e6
        go_wp2_with fail
        exact ⟨⟨k - 1,a6,c6,q6,rfl,rfl,by omega,by omega,hM6,D6,K6⟩,by simp [intOf];omega⟩)
     ·have e3:r = 3:=by omega
      subst e3
      have hmc:(m:Int)<=(c:Int):=by omega
      have hmn:m<=c:=by omega
      have hcm2:¬ c = m:=by omega
      have hmqI:(m:Int)<=(q.length:Int):=by omega
      have hqcI:(q.length:Int)<=(c:Int):=by omega
      have hq16:q.length<=1000010:=by omega
      have HTl:Hid (((q.take m).map (Value.int .u8)).length = m * 1):=zH (by rw [List.length_map,List.length_take];omega)
      have HDl:Hid (((q.drop m).map (Value.int .u8)).length = (q.length - m) * 1):=zH (by rw [List.length_map,List.length_drop];omega)
      have hrow0:(w4.alloc (.cells #[] 5)).ownsRow w4.heap.size 5 1 (.slice (some ⟨w4.heap.size,0,none⟩) 0 0) 0 []:=⟨rfl,.inr ⟨_,0,#[],rfl,Nat.le_refl _,heap_alloc_new w4 _,Nat.le_refl _,by simp [maxLen],rfl,rfl⟩⟩
      have hg4:g < w4.heap.size:=Nat.lt_of_lt_of_le hg K24.size
      have hs4:w.heap.size<=w4.heap.size:=K24.size
      have hfc4:∀ b∈fc,b < w4.heap.size:=fun b hb=>Nat.lt_of_lt_of_le (hfc b hb) hs4
      have Hrow0:=zH hrow0
      have Hfc4:=zH hfc4
      have hend:∀ (z:Int) v9 w9,0<=z->z < 256->w9.ownsRow w4.heap.size 5 1 v9 (0 + m + 1 + (q.length - m)) ((([] ++ (q.take m).map (Value.int .u8)) ++ [.int .u8 z]) ++ (q.drop m).map (Value.int .u8))->Only [g] w4 w9 ->
        ∃ a c q',v9 = .slice a (q':List Int).length c/\(q'.length:Int)<=q.length + 1/\BBs w.heap.size w9 a c q'/\Only [g] w w9:=fun z v9 w9 z0 z1 hO9 ho=>by
       have hc:(([] ++ (q.take m).map (Value.int .u8)) ++ [Value.int .u8 z]) ++ (q.drop m).map (Value.int .u8) = (q.take m ++ (z :: q.drop m)).map (Value.int .u8):=by simp
       have hn:0 + m + 1 + (q.length - m) = (q.take m ++ (z :: q.drop m)).length:=by rw [List.length_append,List.length_take,List.length_cons,List.length_drop];omega
       rw [hc,hn] at hO9
       obtain ⟨a6,c6,e6,hB6⟩:=BBs.ofRow hO9 hs4 (fun x hx=>by
        rcases List.mem_append.1 hx with h | h
        ·exact hM4.rng x (List.mem_of_mem_take h)
        ·rcases List.mem_cons.1 h with h | h
         ·rw [h];exact ⟨z0,z1⟩
         ·exact hM4.rng x (List.mem_of_mem_drop h))
       exact ⟨a6,c6,_,e6,by rw [<- hn];omega,hB6,K24.trans ho⟩
      have Hend:=zH hend
      have HM4:=zH hM4
      clear hend hM4 hrow0 hfc4
      go_wp2
      go_region_law (first
       | (refine Zbo _ rfl (.tmp 59) (.tmp 62) 22 rfl w4.heap.size 5 i0 _ 1 1 Tryz.underlying22 hi hz0 hz1 hz2 rfl (by omega) (.slice (some ⟨w4.heap.size,0,none⟩) 0 0) 0 [] rfl (rowOnly (fp:=[]) Hrow0.out zC (by simp)) (some ⟨gb,0,none⟩) m c ((q.take m).map (Value.int .u8)) rfl HTl.out ((HM4.out.only (fp:=[]) zC (by simp)).srcT m (by omega)) (by intro hh;cases hh) (bb_one _) (by unfold maxLen;omega) (by omega) (Only.size (fp:=[]) zC) ?_;intro v5 w5 hO5 hg5 hb5;have o5:Only [] w4 w5:=Only.grown zC hg5 (by intro z hz hzl;have:=(Hrow0.out.lt z hz).1;omega);have o5g:=o5.weaken [g])
       | (go_simp;go_at_call 83;(with_reducible refine (Zae g fc l (al.size:Int) _ (D4.keep zC) hl (by omega)).mono ?_);rintro en w7 ⟨y,rfl,y0,y1,D7,K7⟩;have K47:Only [g] w4 w7:=Only.trans zC K7;obtain ⟨yn,rfl⟩:=Int.eq_ofNat_of_zero_le y0;have hyn:yn < al.size:=(by omega);have hynI:(yn:Int) < (al.size:Int):=(by omega);have hyn0:(0:Int)<=(yn:Int):=(by omega);have hb256:(al[yn].toNat:Int) < 256:=(by have:=UInt8.toNat_lt al[yn];omega))
       | (refine Zbo _ rfl (.tmp 63) (.tmp 70) 22 rfl w4.heap.size 5 i0 _ 1 1 Tryz.underlying22 hi hz0 hz1 hz2 rfl (by omega) v5 (0 + m) ([] ++ (q.take m).map (Value.int .u8)) rfl (rowOnly (fp:=[g]) hO5 zC (by simp;omega)) _ 1 1 [.int .u8 (al[yn].toNat:Int)] rfl rfl (Zci _ [.int .u8 (al[yn].toNat:Int)] 5 rfl) (by intro hh;cases hh) (by intro u hu;simp at hu;subst hu;rfl) (by unfold maxLen;omega) (by omega) (Only.size (fp:=[g]) zC) ?_;intro v8 w8 hO8 hg8 hb8;have g8:Only v5.ownBlock.toList _ w8:=Only.grown zO hg8 (by intro z hz hzl;simp [hz]);have D8:=(D7.keep zC).only g8 (fun hm=>by have:=(hO5.lt g (by simpa using hm)).1;omega) (fun b hb hm=>by have h1:=Hfc4.out b hb;have:=(hO5.lt b (by simpa using hm)).1;omega);have o8:Only [g] w4 w8:=Only.grown zC hg8 (by intro z hz hzl;have:=(hO5.lt z hz).1;omega))
       | (refine Zbo _ rfl (.tmp 71) (.tmp 74) 22 rfl w4.heap.size 5 i0 _ 1 1 Tryz.underlying22 hi hz0 hz1 hz2 rfl (by omega) v8 (0 + m + 1) (([] ++ (q.take m).map (Value.int .u8)) ++ [.int .u8 (al[yn].toNat:Int)]) rfl (rowOnly (fp:=[]) hO8 zC (by simp)) (some ⟨gb,m,none⟩) (q.length - m) (c - m) ((q.drop m).map (Value.int .u8)) rfl HDl.out ((HM4.out.only (fp:=[g]) zC (by simp;omega)).src m) (by intro hh;cases hh) (bb_one _) (by unfold maxLen;omega) (by omega) (Only.size (fp:=[g]) zC) ?_;intro v9 w9 hO9 hg9 hb9;have g9:Only v8.ownBlock.toList _ w9:=Only.grown zO hg9 (by intro z hz hzl;simp [hz]);have D9:=(D8.keep zC).only g9 (fun hm=>by have:=(hO8.lt g (by simpa using hm)).1;omega) (fun b hb hm=>by have h1:=Hfc4.out b hb;have:=(hO8.lt b (by simpa using hm)).1;omega);have o9:Only [g] w4 w9:=Only.grown zC hg9 (by intro z hz hzl;have:=(hO8.lt z hz).1;omega))
       | fail)
      all_goals (
       obtain ⟨a6,c6,q6,e6,hq6,hM6,K6⟩:=Hend.out _ v9 w9 (by omega) hb256 hO9 o9
       subst e6
       go_wp2_with fail
       exact ⟨⟨k - 1,a6,c6,q6,rfl,rfl,by omega,by omega,hM6,D9,K6⟩,by simp [intOf];omega⟩)
  ·have hend:¬ (0 < k)\/(0 < k/\¬ ((0:Int) < (q.length:Int))):=by omega
   clear hgo
   rcases hend with h1 | ⟨h0,h1⟩
   all_goals
    have h1I:True:=trivial
    have hcs:=hM.str (P:=Tryz.prog) 22 5 Tryz.underlying22 Tryz.underlying5 9 Tryz.underlying9
    go_wp2
    go_ret
    exact ⟨strOfNums q,rfl,by rw [strOfNums_size];omega,hD,hO⟩
def PzA (eS:TypeId) (w:World) (pb:Nat) (wx:World) (n:Int) (nm:ByteArray) (vm:Value):Prop:=
 ∃ (gs:List (List Int)) (fs:List (List Nat)),Acc (w.heap.size + 1) eS wx vm gs fs/\Fresh (w.heap.size + 1) wx fs.flatten/\(pb ∉ vm.ownBlock.toList/\pb ∉ fs.flatten)/\(0<=n/\n<=20)/\nm.size<=8/\gs.length<=8/\(∀ y:List Int,y∈gs->y.length<=30)
def PzR (w:World) (g:Nat) (fc:List Nat) (l:List UInt8) (e:Ending) (w':World):Prop:=∃ (n:Int) (nm:ByteArray) (vm:Value) (gs:List (List Int)) (fp:List Nat),e = .returned (.agg #[.int .i64 n,.string nm,vm])/\I64 n/\nm.size<=20/\Rd w' vm gs fp/\Fresh w.heap.size w' fp/\gs.length<=9/\(∀ y:List Int,y∈gs->y.length<=30)/\Src w' g fc l/\Only [g] w w'
theorem PzR.mk {w w':World} {g:Nat} {fc:List Nat} {l:List UInt8} {n:Int} {nm:ByteArray} {vm:Value} {gs:List (List Int)} {fp:List Nat} (hn:I64 n) (h2:nm.size<=20) (h3:Rd w' vm gs fp) (h4:Fresh w.heap.size w' fp) (h5:gs.length<=9) (h6:∀ y:List Int,y∈gs->y.length<=30) (D:Src w' g fc l) (k:Only [g] w w'):PzR w g fc l (.returned (.agg #[.int .i64 n,.string nm,vm])) w':=⟨n,nm,vm,gs,fp,rfl,hn,h2,h3,h4,h5,h6,D,k⟩
theorem PzR.rep {w':World} {n:Int} {nm:ByteArray} {vm:Value} {gs:List (List Int)} {fp:List Nat} (hn:I64 n) (h2:nm.size<=20) (h3:Rd w' vm gs fp):Rp.rep w' [.int .i64 n,.string nm,vm] (⟨n,nm,gs⟩:Puzzle) fp:=⟨vm,rfl,hn,by show nm.size<=maxLen;unfold maxLen;omega,h3⟩
theorem Blk.set3 {V:World} {b:Nat} {x0 x1 x2:Value} (h:Blk V b [x0,x1,x2]) (y0 y1 y2:Value):Blk (((V.setCell ⟨b,0,none⟩ y0).setCell ⟨b,1,none⟩ y1).setCell ⟨b,2,none⟩ y2) b [y0,y1,y2]:=((h.set 0 y0).set 1 y1).set 2 y2
theorem Zeo (V:World) (b:Nat) (y0 y1 y2:Value):Only [b] V (((V.setCell ⟨b,0,none⟩ y0).setCell ⟨b,1,none⟩ y1).setCell ⟨b,2,none⟩ y2):=((zO.setCell (by simp) _).setCell (by simp) _).setCell (by simp) _
theorem pz_fin {w V:World} {g:Nat} {fc:List Nat} {l:List UInt8} {n:Int} {nm:ByteArray} {vm:Value} {gs:List (List Int)} {fp:List Nat} (hg:g < w.heap.size) (hfc:∀ b∈fc,b < w.heap.size) (hn:I64 n) (h2:nm.size<=20) (h3:Rd V vm gs fp) (h4:Fresh w.heap.size V fp) (hne:∀ b∈fp,b ≠ w.heap.size) (h5:gs.length<=9) (h6:∀ y:List Int,y∈gs->y.length<=30) (D:Src V g fc l) (k:Only [g] w V):PzR w g fc l (.returned (.agg #[.int .i64 n,.string nm,vm])) (((V.setCell ⟨w.heap.size,0,none⟩ (.int .i64 n)).setCell ⟨w.heap.size,1,none⟩ (.string nm)).setCell ⟨w.heap.size,2,none⟩ vm):=by
 have kst:=Zeo V w.heap.size (.int .i64 n) (.string nm) vm
 have hd:∀ b∈fp,b ∉ [w.heap.size]:=fun b hb hm=>by have:=hne b hb;simp at hm;omega
 exact PzR.mk hn h2 (Rp.only h3 kst hd) (h4.only kst hd) h5 h6 (D.only kst (by simp;omega) (fun b hb hm=>by have:=hfc b hb;simp at hm;omega)) (k.then_ kst (fun b hb hl=>by simp at hb;omega))
set_option maxHeartbeats 16000000 in
theorem Zip (g:Nat) (fc:List Nat) (l:List UInt8) (w:World) (h:Src w g fc l) (hl:l.length<=4096) :
  Calls Tryz.prog 81 #[.pointer (some ⟨g,0,none⟩)] w (PzR w g fc l):=by
 obtain ⟨i0,hi,hz0,hz1,hz2⟩:=info_parts Tryz.info22
 have hg:=h.lt
 have hfc:∀ b∈fc,b < w.heap.size:=by obtain ⟨_,_,_,_,_,_,_,h4,_⟩:=h;exact fun b hb=>Rp.lt h4 b hb
 have hB0:=Blk.new w [.int .i64 0,.string ⟨#[]⟩,.slice none 0 0] 26
 have ho:Only [] w (w.alloc (.cells #[.int .i64 0,.string ⟨#[]⟩,.slice none 0 0] 26)):=zO.alloc _
 have Hsz0:Hid ((w.alloc (.cells #[.int .i64 0,.string ⟨#[]⟩,.slice none 0 0] 26)).heap.size = w.heap.size + 1):=zH (by simp)
 go_enter Tryz.func81,Tryz.ntmps81
 go_upto_region 2 with (first
  | (go_at_call 144;(with_reducible refine (Zms g fc l _ (h.keep ho) hl).mono ?_);rintro e w1 ⟨n,nm,vm,rfl,hP,D1,K1⟩;obtain ⟨am,km,cm,rfl⟩:=hP.form;rw [Hsz0.out] at hP;have HP:=zH hP;clear hP;have k1:Only [g] w w1:=(ho.weaken [g]).trans K1;have s1:w.heap.size + 1<=w1.heap.size:=(by have:=K1.size;rw [Hsz0.out] at this;exact this);have B1:=hB0.only K1 (by simp;omega))
  | fail)
 have kal:Only [] w1 (w1.alloc (.cells #[.int .i64 n,.string nm,.slice am km cm] 26)):=zO.alloc _
 have B2:=B1.keep kal
 have Pb:=Blk.new w1 [.int .i64 n,.string nm,.slice am km cm] 26
 have hA:PzA 27 w w1.heap.size (w1.alloc (.cells #[.int .i64 n,.string nm,.slice am km cm] 26)) n nm (.slice am km cm):=by
  obtain ⟨gs,fs,a,b,c⟩:=HP.out
  exact ⟨gs,fs,a.keep kal,b.keep kal,⟨fun hm=>by have:=(a.ownlt _ (by simpa using hm)).2;omega,fun hm=>by have:=b.lt _ hm;omega⟩,c⟩
 have D2:=D1.keep kal
 have k2:Only [g] w (w1.alloc (.cells #[.int .i64 n,.string nm,.slice am km cm] 26)):=k1.alloc _
 obtain ⟨W2,hW2⟩:∃ W,W = w1.alloc (.cells #[.int .i64 n,.string nm,.slice am km cm] 26):=⟨_,rfl⟩
 obtain ⟨pb,hpb⟩:∃ pb,pb = w1.heap.size:=⟨_,rfl⟩
 have hpb2:w.heap.size + 1<=pb:=by omega
 have hpb3:pb < W2.heap.size:=by rw [hW2,hpb];simp
 rw [<- hW2] at B2 Pb hA D2 k2 ⊢
 rw [<- hpb] at Pb hA ⊢
 clear hW2 HP B1 hB0 ho kal D1 K1 k1 s1 hpb
 go_cut [7] (fun s7 wx=>∃ b:Bool,s7 = .bool b/\Src wx g fc l/\Only [g] W2 wx)
 case first=>
  go_wp2_with ((go_at_call 84;(with_reducible refine (Zbf g fc l 20 W2 D2 hl (by omega)).mono ?_);rintro e w3 ⟨b,rfl,D3,K3⟩))
  go_meet
  exact ⟨_,rfl,D3,K3⟩
 case rest=>
  obtain ⟨W3,hnew⟩:∃ W,W = wc:=⟨_,rfl⟩
  subst hnew
  obtain ⟨b3,rfl,D3,K3⟩:=hcut
  refine (show ∀ a w,Code.wp Tryz.prog _ _ a w->_ from by assumption) _ _ ?_
  go_cut [] (fun wx=>∃ (n:Int) (nm:ByteArray) (am:Option Addr) (km cm:Nat),Blk wx w.heap.size [.int .i64 0,.string ⟨#[]⟩,.slice none 0 0]/\Blk wx pb [.int .i64 n,.string nm,.slice am km cm]/\PzA 27 w pb wx n nm (.slice am km cm)/\Src wx g fc l/\Only [g] w wx/\pb < wx.heap.size)
  case first=>
   have B3:=B2.only K3 (by simp;omega)
   have P3:=Pb.only K3 (by simp;omega)
   have k3:=k2.trans K3
   have hp3:pb < W3.heap.size:=Nat.lt_of_lt_of_le hpb3 K3.size
   cases b3
   ·have hA3:PzA 27 w pb W3 n nm (.slice am km cm):=by
     obtain ⟨gs,fs,a,b,c⟩:=hA
     exact ⟨gs,fs,a.only K3 (fun q hq hm=>by have:=b.ge q hq;simp at hm;omega) (fun q hq hm=>by have:=(a.ownlt q hq).1;simp at hm;omega),b.only K3 (fun q hq hm=>by have:=b.ge q hq;simp at hm;omega),c⟩
    go_wp2
    go_meet
    exact ⟨n,nm,am,km,cm,B3,P3,hA3,D3,k3,hp3⟩
   ·go_wp2_with (first
     | (go_at_call 83;(with_reducible refine (Zae g fc l 6 W3 D3 hl (by omega)).mono ?_);rintro e w4 ⟨r,rfl,r0,r1,D4,K4⟩;have B4:=B3.only K4 (by simp;omega);have P4:=P3.only K4 (by simp;omega);have hr5:r<=5:=(by omega))
     | (go_at_call 145;(with_reducible refine (Zli r w4 r0 hr5).mono ?_);rintro e w5 ⟨n5,nm5,vm5,b5,rfl,hP,t5⟩;obtain ⟨a5,m5,c5,rfl⟩:=hP.form;have HP:=zH hP;clear hP;have P5:=P4.keep t5;obtain ⟨g0,g1,g2⟩:=P5.c3;obtain ⟨p0,p1,p2⟩:=P5.f3)
     | fail)
    go_meet
    have kst:=Zeo w5 pb (.int .i64 n5) (.string nm5) (.slice a5 m5 c5)
    have B5:=(B4.keep t5).only kst (by simp;omega)
    have P6:=P5.set3 (.int .i64 n5) (.string nm5) (.slice a5 m5 c5)
    have hs4:=K4.size
    have hs5:=t5.size
    refine ⟨n5,nm5,a5,m5,c5,B5,P6,?_,(D4.keep t5).only kst (by simp;omega) (fun b hb hm=>by have:=hfc b hb;simp at hm;omega),((k3.trans K4).trans (t5.weaken _)).then_ kst (fun b hb hl=>by simp at hb;omega),Nat.lt_of_lt_of_le (by omega:pb < w5.heap.size) kst.size⟩
    obtain ⟨gs,fs,a,b,c⟩:=HP.out
    exact ⟨gs,fs,(a.only kst (fun q hq hm=>by have:=b.ge q hq;simp at hm;omega) (fun q hq hm=>by have:=(a.ownlt q hq).1;simp at hm;omega)).low3 (by omega),(b.only kst (fun q hq hm=>by have:=b.ge q hq;simp at hm;omega)).mono (by omega),⟨fun hm=>by have:=(a.ownlt _ (by simpa using hm)).1;omega,fun hm=>by have:=b.ge _ hm;omega⟩,c⟩
  case rest=>
   obtain ⟨W4,hnew⟩:∃ W,W = wc:=⟨_,rfl⟩
   subst hnew
   clear B2 Pb hA D2 k2 hpb3 D3 K3
   obtain ⟨n,nm,am,km,cm,B4,P4,hA,D4,k4,hp4⟩:=hcut
   refine (show ∀ a w,Code.wp Tryz.prog _ _ a w->_ from by assumption) _ _ ?_
   obtain ⟨gs,fs,cA,cF,⟨cv,cf⟩,⟨n0,n20⟩,nml,gsl,gs30⟩:=hA
   obtain ⟨am',cm',ev⟩:=cA.form
   injection ev with e1 e2 e3
   subst e1
   subst e2
   subst e3
   have hfd:∀ q∈fs.flatten,q ∉ [g]:=fun q hq hm=>by have:=cF.ge q hq;simp at hm;omega
   have hvd:∀ q,(Value.slice am gs.length cm).ownBlock = some q->q ∉ [g]:=fun q hq hm=>by have:=(cA.ownlt q hq).1;simp at hm;omega
   have Gs30:=zH gs30
   have Hcv:=zH cv
   have Hcf:=zH cf
   have Hfd:=zH hfd
   have Hvd:=zH hvd
   have HA:=zH cA
   clear gs30 cv cf hfd hvd cA
   have hOk:∀ V,Only [g] W4 V->Rd V (.slice am gs.length cm) gs ((Value.slice am gs.length cm).ownBlock.toList ++ fs.flatten)/\Fresh (w.heap.size + 1) V ((Value.slice am gs.length cm).ownBlock.toList ++ fs.flatten):=fun V hV=>by
    have hA:=HA.out.only hV Hfd.out Hvd.out
    have hF:=cF.only hV Hfd.out
    exact ⟨hA.rd (by decide),hA.fresh hF⟩
   have HOk:=zH hOk
   clear hOk
   go_wp2_with (first
    | (go_at_call 84;(with_reducible refine (Zbf g fc l 15 W4 D4 hl (by omega)).mono ?_);rintro e w5 ⟨b5,rfl,D5,K5⟩;have B5:=B4.only K5 (by simp;omega);have P5:=P4.only K5 (by simp;omega);obtain ⟨x05,x15,x25⟩:=P5.c3;obtain ⟨p05,p15,p25⟩:=P5.f3;obtain ⟨g05,g15,g25⟩:=B5.c3;obtain ⟨q05,q15,q25⟩:=B5.f3)
    | (go_at_call 83;(with_reducible refine (Zae g fc l 4 w5 D5 hl (by omega)).mono ?_);rintro e w6 ⟨r,rfl,r0,r1,D6,K6⟩;have B6:=B5.only K6 (by simp;omega);have P6:=P5.only K6 (by simp;omega);obtain ⟨x06,x16,x26⟩:=P6.c3;obtain ⟨p06,p16,p26⟩:=P6.f3;obtain ⟨g06,g16,g26⟩:=B6.c3;obtain ⟨q06,q16,q26⟩:=B6.f3)
    | (go_at_call 146;(with_reducible refine (Zqp g fc l nm ⟨#[65,66,97]⟩ w6 D6 hl (by omega) (by decide) (by decide)).mono ?_);rintro e w7 ⟨t7,rfl,tl,D7,K7⟩;have B7:=B6.only K7 (by simp;omega);have P7:=P6.only K7 (by simp;omega);obtain ⟨x07,x17,x27⟩:=P7.c3;obtain ⟨p07,p17,p27⟩:=P7.f3;obtain ⟨g07,g17,g27⟩:=B7.c3;obtain ⟨q07,q17,q27⟩:=B7.f3)
    | (go_at_call 38;(with_reducible refine (Zcz g fc l 20 w6 D6 hl (by unfold I64;omega)).mono ?_);rintro e w7 ⟨y7,rfl,hy7,D7,K7⟩;have B7:=B6.only K7 (by simp;omega);have P7:=P6.only K7 (by simp;omega);obtain ⟨x07,x17,x27⟩:=P7.c3;obtain ⟨p07,p17,p27⟩:=P7.f3;obtain ⟨g07,g17,g27⟩:=B7.c3;obtain ⟨q07,q17,q27⟩:=B7.f3;have Hy7:=zH hy7;clear hy7)
    | fail)
   ·have kst:Only [pb] w7 (w7.setCell ⟨pb,1,none⟩ (.string t7)):=zO.setCell (by simp) _
    have K47:=K5.trans (K6.trans K7)
    obtain ⟨hR,hF⟩  :=HOk.out w7 K47
    have hd:∀ b∈(Value.slice am gs.length cm).ownBlock.toList ++ fs.flatten,b ∉ [pb]:=fun b hb hm=>by
     simp only [List.mem_singleton] at hm
     subst hm
     rcases List.mem_append.1 hb with hb | hb
     ·exact Hcv.out hb
     ·exact Hcf.out hb
    have Yf:=(B7.only kst (by simp;omega)).set3 (.int .i64 n) (.string t7) (.slice am gs.length cm)
    obtain ⟨r0f,r1f,r2f⟩:=Yf.c3
    exact bodyPost_ret (v:=.agg #[.int .i64 n,.string t7,.slice am gs.length cm]) (by simp [results,Tryz.results81,go_sem,r0f,r1f,r2f]) rfl (pz_fin hg hfc (by unfold I64;omega) (by omega) (Rp.only hR kst hd) ((hF.only kst hd).mono (by omega)) (fun b hb=>by have:=hF.ge b hb;omega) (by omega) Gs30.out (D7.only kst (by simp;omega) (fun b hb hm=>by have:=hfc b hb;simp at hm;omega)) ((k4.trans K47).then_ kst (fun b hb hl=>by simp at hb;omega)))
   ·have kst:Only [pb] w7 (w7.setCell ⟨pb,0,none⟩ (.int .i64 y7)):=zO.setCell (by simp) _
    have K47:=K5.trans (K6.trans K7)
    obtain ⟨hR,hF⟩  :=HOk.out w7 K47
    have hd:∀ b∈(Value.slice am gs.length cm).ownBlock.toList ++ fs.flatten,b ∉ [pb]:=fun b hb hm=>by
     simp only [List.mem_singleton] at hm
     subst hm
     rcases List.mem_append.1 hb with hb | hb
     ·exact Hcv.out hb
     ·exact Hcf.out hb
    have Yf:=(B7.only kst (by simp;omega)).set3 (.int .i64 y7) (.string nm) (.slice am gs.length cm)
    obtain ⟨r0f,r1f,r2f⟩:=Yf.c3
    exact bodyPost_ret (v:=.agg #[.int .i64 y7,.string nm,.slice am gs.length cm]) (by simp [results,Tryz.results81,go_sem,r0f,r1f,r2f]) rfl (pz_fin hg hfc Hy7.out (by omega) (Rp.only hR kst hd) ((hF.only kst hd).mono (by omega)) (fun b hb=>by have:=hF.ge b hb;omega) (by omega) Gs30.out (D7.only kst (by simp;omega) (fun b hb hm=>by have:=hfc b hb;simp at hm;omega)) ((k4.trans K47).then_ kst (fun b hb hl=>by simp at hb;omega)))
   ·have kst:=Zeo w6 pb (.int .i64 0) (.string ⟨#[]⟩) (.slice none 0 0)
    have Yf:=(B6.only kst (by simp;omega)).set3 (.int .i64 0) (.string ⟨#[]⟩) (.slice none 0 0)
    obtain ⟨r0f,r1f,r2f⟩:=Yf.c3
    exact bodyPost_ret (v:=.agg #[.int .i64 0,.string ⟨#[]⟩,.slice none 0 0]) (by simp [results,Tryz.results81,go_sem,r0f,r1f,r2f]) rfl (pz_fin hg hfc (by unfold I64;omega) (by decide) (nil_rd (α:=List Int) _) (Fresh.nil _ _) (by simp) (by simp) (by simp) (D6.only kst (by simp;omega) (fun b hb hm=>by have:=hfc b hb;simp at hm;omega)) ((k4.trans (K5.trans K6)).then_ kst (fun b hb hl=>by simp at hb;omega)))
   ·have HcP:Hid (∀ V,Src V g fc l->Calls Tryz.prog 147 #[.pointer (some ⟨g,0,none⟩),.int .i64 4] V fun e w'=>∃ v,∃ p:List Int,∃ fp,e = .returned v/\Rd w' v p fp/\Fresh V.heap.size w' fp/\p.length<=25/\Src w' g fc l/\Only [g] V w'):=zH (fun V D=>Zdg g fc l 4 V D hl (by decide))
    have hlen:gs.length + 1<=1073741824:=by omega
    have K46:=K5.trans K6
    have hs6:w.heap.size + 1<=w6.heap.size:=Nat.le_trans hpb2 (Nat.le_of_lt (Nat.lt_of_lt_of_le hp4 K46.size))
    go_region_law (first
     | (go_simp;go_at_call 147;(with_reducible refine (HcP.out _ (D6.keep zC)).mono ?_);rintro en w7 ⟨v7,p7,f7,rfl,r7,F7,l7,D7,K7⟩;obtain ⟨a7,c7,rfl,-⟩:=Rd.ints r7;have B7:=(B6.keep zC).only K7 (by simp;omega);have P7:=(P6.keep zC).only K7 (by simp;omega);have x27:=P7.cell 2 rfl;have p27:=P7.frozen 2;have x27a:=(P7.keep (zO.alloc (.cells #[.slice a7 p7.length c7] 27))).cell 2 rfl;have K67:Only [g] w6 w7:=Only.trans zC K7;have hA7:=HA.out.only (K46.trans K67) Hfd.out Hvd.out;have hs7:w.heap.size + 1<=w7.heap.size:=Nat.le_trans hs6 K67.size)
     | (refine Ziy (α:=List Int) rfl (.tmp 36) (.tmp 39) 24 rfl (w.heap.size + 1) 27 i0 _ 24 Tryz.underlying24 hi hz0 hz1 hz2 rfl (by decide) (by decide) w7 (.slice am gs.length cm) gs fs rfl hA7 zC hs7 _ 1 [.slice a7 p7.length c7] p7 f7 rfl (lit_src _ [.slice a7 p7.length c7] _ rfl) (by intro u hu;simp at hu;subst hu;rfl) (zK r7 zC) ?hap hlen ?_;(case hap=>(intro b hb he;have h1:=F7.ge b hb;have h2:=(HA.out.ownlt b he).2;have h3:=K46.size;simp at h1;omega));intro v9 w9 hA9 hO9 hN9;obtain ⟨a9,c9,rfl⟩:=hA9.form;rw [List.length_append,List.length_singleton] at hA9 hN9;have P9:=(P7.keep zC).only hO9 Hcv.out;have B9:=(B7.keep zC).only hO9 (fun hm=>by have:=(HA.out.ownlt _ (by simpa using hm)).1;omega);have F9:=(Zry (w:=w) (W:=w6) ((HA.out.only K46 Hfd.out Hvd.out).low3 (by omega)) ((cF.only K46 Hfd.out).mono (by omega)) (k4.trans K46) K67 (F7.mono (by simp)) D7 hg hfc zC hO9).1;have D9:=(D7.keep zC).only hO9 (fun hm=>by have:=(HA.out.ownlt _ (by simpa using hm)).1;omega) (fun b hb hm=>by have h1:=hfc b hb;have:=(HA.out.ownlt _ (by simpa using hm)).1;omega);have k9:Only [g] w w9:=Only.then_ (show Only [g] w _ from Only.trans (k4.trans (K46.trans K67)) zC) hO9 (fun b hb hl=>by have:=(HA.out.ownlt b (by simpa using hb)).1;omega);obtain ⟨x09,x19,x29⟩:=P9.c3;obtain ⟨p09,p19,p29⟩:=P9.f3;obtain ⟨g09,g19,g29⟩:=B9.c3;obtain ⟨q09,q19,q29⟩:=B9.f3)
     | fail)
    all_goals
     go_wp2
     have kst:Only [pb] w9 (w9.setCell ⟨pb,2,none⟩ (.slice a9 (gs.length + 1) c9)):=zO.setCell (by simp) _
     have hown:∀ b,(Value.slice a9 (gs.length + 1) c9).ownBlock = some b->b ≠ pb/\b ≠ w.heap.size:=fun b hb=>by
      rw [hb] at hN9
      rcases hN9 with e | e
      ·have h1:=(HA.out.ownlt b e.symm).1
       refine ⟨fun e2=>Hcv.out (by rw [<- e2];simpa using e.symm),by omega⟩
      ·injection e with e
       have h1:=K46.size
       have h2:=K67.size
       simp at e
       refine ⟨by omega,by omega⟩
     have hrows:∀ b∈(fs ++ [f7]).flatten,b ≠ pb/\b ≠ w.heap.size:=fun b hb=>by
      rw [List.flatten_append] at hb
      rcases List.mem_append.1 hb with hb | hb
      ·exact ⟨fun e2=>Hcf.out (by rw [<- e2];exact hb),by have:=cF.ge b hb;omega⟩
      ·have h1:=F7.ge b (by simpa using hb)
       have h2:=K46.size
       simp at h1
       exact ⟨by omega,by omega⟩
     have hall:∀ b∈(Value.slice a9 (gs.length + 1) c9).ownBlock.toList ++ (fs ++ [f7]).flatten,b ≠ pb/\b ≠ w.heap.size:=fun b hb=>by
      rcases List.mem_append.1 hb with hb | hb
      ·exact hown b (by simpa using hb)
      ·exact hrows b hb
     have hd:∀ b∈(Value.slice a9 (gs.length + 1) c9).ownBlock.toList ++ (fs ++ [f7]).flatten,b ∉ [pb]:=fun b hb hm=>(hall b hb).1 (by simpa using hm)
     have hR:=hA9.rd (by decide)
     have hF:=(hA9.low3 (show w.heap.size<=w.heap.size + 1 by omega)).fresh F9
     have Yf:=(B9.only kst (by simp;omega)).set3 (.int .i64 n) (.string nm) (.slice a9 (gs.length + 1) c9)
     obtain ⟨r0f,r1f,r2f⟩:=Yf.c3
     have hg30:∀ y:List Int,y∈gs ++ [p7]->y.length<=30:=fun y hy=>by
      rcases List.mem_append.1 hy with hy | hy
      ·exact Gs30.out y hy
      ·rw [List.mem_singleton.1 hy];omega
     exact bodyPost_ret (v:=.agg #[.int .i64 n,.string nm,.slice a9 (gs.length + 1) c9]) (by simp [results,Tryz.results81,go_sem,r0f,r1f,r2f]) rfl (pz_fin (gs:=gs ++ [p7]) hg hfc (by unfold I64;omega) (by omega) (Rp.only hR kst hd) (hF.only kst hd) (fun b hb=>(hall b hb).2) (by rw [List.length_append,List.length_singleton];omega) hg30 (D9.only kst (by simp;omega) (fun b hb hm=>by have:=hfc b hb;simp at hm;omega)) (k9.then_ kst (fun b hb hl=>by simp at hb;omega)))
   ·obtain ⟨hR,hF⟩  :=HOk.out w5 K5
    have Yf:=(B5).set3 (.int .i64 n) (.string nm) (.slice am gs.length cm)
    obtain ⟨r0f,r1f,r2f⟩:=Yf.c3
    exact bodyPost_ret (v:=.agg #[.int .i64 n,.string nm,.slice am gs.length cm]) (by simp [results,Tryz.results81,go_sem,r0f,r1f,r2f]) rfl (pz_fin hg hfc (by unfold I64;omega) (by omega) hR (hF.mono (by omega)) (fun b hb=>by have:=hF.ge b hb;omega) (by omega) Gs30.out D5 (k4.trans K5))
end Go.Proofs.YthleokaeobdamaaGreat
