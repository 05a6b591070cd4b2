/- The reference's corrupt: a text with a few bytes changed (the draws of puzzles and tables). Its size is told. The reference's drawn puzzles, also invalid ones: drawAnyPuzzle (laws 45, 50, 55, 59). Bounds only. Rows of a box of the call's own written over: the box still can be appended to (laws 26, 49). The reference's copyLists, copyTables, BuildTables, with results that can be appended to (the draws of certificates; laws 45, 59). (Printed by mkcopya.py.) The reference's drawn sets of points and tables: drawTrackedSets, drawTables (laws 45, 59). Bounds only. The reference's drawn puzzles for tables: l24DrawPuzzle (laws 26, 49). A drawn puzzle that is valid has at most five points. (Printed by mkvdr1.py.) FillJob: plain data, how it lies in memory, the laws' own helpers on it. (Printed by gen_struct.py.) A number as some bytes: the program's number, the reference's l29Uint32. -/
import Derived.Test.YtpkplmnpepkdaaaRowVerifiedTablesG9
import Derived.Laws.BytesArg
import Derived.Lib.ConvBytes
import Derived.Deep.RegionLaw
import Derived.Test.YtpkplmnpepkdaaaRowVerifiedTablesG6
import Derived.Test.YtpkplmnpepkdaaaRowVerifiedTablesG2
import Derived.Test.YtpkplmnpepkdaaaRowVerifiedTablesG1
import Derived.Test.YtpkplmnpepkdaaaRowVerifiedTablesG4
import Derived.Test.YtpkplmnpepkdaaaRowVerifiedTablesG7
import Derived.Deep.RegionHeld3
import Derived.Lib.Strings
import Derived.Lib.ItoaLen
import Derived.Lib.ItoaMem
import Derived.Deep.AppendLies
import Derived.Deep.DeepCutAuto
import Derived.WalkSpells
import Derived.Deep.QuietTactic
import Derived.Maps.RangeWalk
import Derived.StillTailTactics
namespace Go.Proofs.Ytpkplmnpepkdaaa
open Go.RowKit
set_option maxRecDepth 10000

/-- a slice of bytes of the call's own that is not appended to in place -/
structure BBs (base : Nat) (w : World) (a : Option Addr) (c : Nat) (l : List Int) : Prop where
  len : l.length ≤ c
  cap : c ≤ maxLen
  rng : ∀ x ∈ l, 0 ≤ x ∧ x < 256
  fm : (a = none ∧ l = []) ∨ ∃ g, a = some ⟨g, 0, none⟩ ∧ base ≤ g ∧ g < w.heap.size ∧ ∀ j (h : j < l.length), w.cell? ⟨g, j, none⟩ = some (.int .u8 l[j]) ∧ w.frozen? ⟨g, j, none⟩ = false
theorem frozen_of_block {w w' : World} {p : Addr} (h : w'.heap[p.block]? = w.heap[p.block]?) : w'.frozen? p = w.frozen? p := by
  simp only [World.frozen?, h]
theorem BBs.only {base : Nat} {w w' : World} {a : Option Addr} {c : Nat} {l : List Int} {fp : List Nat} (h : BBs base w a c l) (ho : Only fp w w') (hd : ∀ b ∈ fp, b < base) : BBs base w' a c l := by
  refine ⟨h.len, h.cap, h.rng, ?_⟩
  rcases h.fm with h1 | ⟨g, h1, h2, h3, h4⟩
  · exact .inl h1
  · have hn : g ∉ fp := fun hm => by have := hd g hm; omega
    refine .inr ⟨g, h1, h2, Nat.lt_of_lt_of_le h3 ho.size, fun j hj => ⟨ho.cell hn (h4 j hj).1, ?_⟩⟩
    rw [frozen_of_block (ho.block g h3 hn)]
    exact (h4 j hj).2
theorem BBs.take {base : Nat} {w : World} {a : Option Addr} {c : Nat} {l : List Int} (h : BBs base w a c l) (k : Nat) (hk : k ≤ l.length) : BBs base w a c (l.take k) := by
  refine ⟨by rw [List.length_take]; have := h.len; omega, h.cap, fun x hx => h.rng x (List.mem_of_mem_take hx), ?_⟩
  rcases h.fm with ⟨h1, h2⟩ | ⟨g, h1, h2, h3, h4⟩
  · exact .inl ⟨h1, by rw [h2]; simp⟩
  · refine .inr ⟨g, h1, h2, h3, fun j hj => ?_⟩
    rw [List.length_take] at hj
    have := h4 j (by omega)
    rwa [List.getElem_take]
theorem BBs.put {base : Nat} {w : World} {g c : Nat} {l : List Int} (h : BBs base w (some ⟨g, 0, none⟩) c l) {k : Nat} (hk : k < l.length) {x : Int} (hx : 0 ≤ x ∧ x < 256) : BBs base (w.setCell ⟨g, k, none⟩ (.int .u8 x)) (some ⟨g, 0, none⟩) c (l.set k x) := by
  refine ⟨by rw [List.length_set]; exact h.len, h.cap, fun y hy => ?_, ?_⟩
  · rcases List.mem_or_eq_of_mem_set hy with h1 | rfl
    · exact h.rng y h1
    · exact hx
  · rcases h.fm with ⟨h1, -⟩ | ⟨g', h1, h2, h3, h4⟩
    · cases h1
    · injection h1 with h1
      injection h1 with h1 _ _
      subst h1
      refine .inr ⟨g, rfl, h2, by simpa [World.setCell] using h3, fun j hj => ?_⟩
      rw [List.length_set] at hj
      have c0 := h4 j hj
      have ck := h4 k hk
      refine ⟨?_, ?_⟩
      · by_cases e : k = j
        · subst e
          rw [List.getElem_set_self]
          exact World.cell?_setCell_same _ _ _ ck.1
        · rw [List.getElem_set_ne e]
          have hne : (⟨g, j, none⟩ : Addr) ≠ ⟨g, k, none⟩ := by intro e2; injection e2 with _ e2 _; exact e e2.symm
          rw [World.cell?_setCell_other _ _ _ _ hne.symm]; exact c0.1
      · rw [World.frozen?_setCell]; exact c0.2
theorem BBs.at_ {base : Nat} {w : World} {g c : Nat} {l : List Int} (h : BBs base w (some ⟨g, 0, none⟩) c l) {j : Nat} (hj : j < l.length) : w.cell? ⟨g, j, none⟩ = some (.int .u8 l[j]) ∧ w.frozen? ⟨g, j, none⟩ = false := by
  rcases h.fm with ⟨h1, -⟩ | ⟨g', h1, h2, h3, h4⟩
  · cases h1
  · injection h1 with h1
    injection h1 with h1 _ _
    subst h1
    exact h4 j hj
/-- a row of the call's own, as bytes -/
theorem BBs.ofRow {base B : Nat} {w : World} {e : TypeId} {v : Value} {l : List Int} (h : w.ownsRow B e 1 v l.length (l.map (Value.int .u8))) (hB : base ≤ B) (hr : ∀ x ∈ l, 0 ≤ x ∧ x < 256) : ∃ a c, v = .slice a l.length c ∧ BBs base w a c l := by
  have h0 := h
  rcases h.2 with ⟨h1, h2⟩ | ⟨g, cap, cur, h1, hb, hg, h5, h6, -⟩
  · have hl0 : l = [] := List.length_eq_zero_iff.1 h2
    exact ⟨none, 0, by rw [h1, h2], by rw [h2]; exact Nat.le_refl _, by simp [maxLen], hr, .inl ⟨rfl, hl0⟩⟩
  · refine ⟨_, cap, h1, h5, h6, hr, .inr ⟨g, rfl, Nat.le_trans hB hb, (Array.getElem?_eq_some_iff.1 hg).1, fun j hj => ?_⟩⟩
    rw [h1] at h0
    refine ⟨?_, h0.frozenAt j⟩
    rw [h0.cellAt j (by omega)]
    simp [hj]
theorem BBs.src {base : Nat} {w : World} {g c : Nat} {l : List Int} (h : BBs base w (some ⟨g, 0, none⟩) c l) (k : Nat) : ∀ ad, some (⟨g, k, none⟩ : Addr) = some ad → ∀ j u, ((l.drop k).map (Value.int .u8))[j]? = some u → w.cell? (ad.add j) = some u := by
  intro ad had j u hu
  injection had with had
  subst had
  rcases h.fm with ⟨h1, -⟩ | ⟨g', h1, h2, h3, h4⟩
  · cases h1
  · injection h1 with h1
    injection h1 with h1 _ _
    subst h1
    have hadd : (⟨g, k, none⟩ : Addr).add j = ⟨g, k + j, none⟩ := by unfold Addr.add; split <;> simp_all
    rw [hadd]
    rw [List.getElem?_map, List.getElem?_drop] at hu
    obtain ⟨x, hx, rfl⟩ := Option.map_eq_some_iff.1 hu
    obtain ⟨hlt, rfl⟩ := List.getElem?_eq_some_iff.1 hx
    exact (h4 _ hlt).1
theorem BBs.srcT {base : Nat} {w : World} {g c : Nat} {l : List Int} (h : BBs base w (some ⟨g, 0, none⟩) c l) (k : Nat) (hk : k ≤ l.length) : ∀ ad, some (⟨g, 0, none⟩ : Addr) = some ad → ∀ j u, ((l.take k).map (Value.int .u8))[j]? = some u → w.cell? (ad.add j) = some u := by
  have h2 := (h.take k hk).src 0
  rwa [List.drop_zero] at h2
theorem bb_one (l : List Int) : ∀ u ∈ l.map (Value.int .u8), u.oneCell' = true := by
  intro u hu
  obtain ⟨x, -, rfl⟩ := List.mem_map.1 hu
  rfl
theorem rowOnly {w w' : World} {B : Nat} {e : TypeId} {size n : Nat} {v : Value} {xs : List Value} {fp : List Nat} (h : w.ownsRow B e size v n xs) (ho : Only fp w w') (hd : ∀ b ∈ fp, b < B) : w'.ownsRow B e size v n xs := by
  refine ⟨h.1, ?_⟩
  rcases h.2 with ⟨rfl, h0⟩ | ⟨g, cp, cur, rfl, hb, hg, hrest⟩
  · exact .inl ⟨rfl, h0⟩
  · exact .inr ⟨g, cp, cur, rfl, hb, by rw [ho.block g (Array.getElem?_eq_some_iff.1 hg).1 (fun hm => by have := hd g hm; omega)]; exact hg, hrest⟩
/-- the bytes as a string -/
theorem BBs.str {P : Program} {base : Nat} {w : World} {a : Option Addr} {c : Nat} {l : List Int} (h : BBs base w a c l) (src e : TypeId) (hs : P.underlying src = some (.slice e)) (he : P.underlying e = some (.int .u8)) (dst : TypeId) (hd : P.underlying dst = some .string) :
    (convert src dst (.slice a l.length c)).run P w = .ok (.string (strOfNums l)) w := by
  rcases h.fm with ⟨rfl, rfl⟩ | ⟨g, rfl, h2, h3, h4⟩
  · exact run_convert_bytes_nil (w := w) src e hs he _ _ dst hd
  · exact run_convert_bytes_arg (P := P) w src e hs he g 0 l.length c l rfl (fun i hi => by
      rw [Nat.zero_add, (h4 i hi).1, List.getD_eq_getElem?_getD, List.getElem?_eq_getElem hi]; rfl) dst hd
theorem strOfNums_size (l : List Int) : (strOfNums l).size = l.length := by unfold strOfNums; simp [ByteArray.size]
theorem Try.infoU8c : (Try.prog.info? 5).map (fun i => (i.zero, i.size, i.bytes)) = some (some (.int .u8 0), 1, 1) := by kernel_rfl
/-- a new row of bytes made out of a string -/
theorem BBs.made (w : World) (s : ByteArray) (hs : s.size ≤ 1000000) : BBs w.heap.size (Lib.bytesWorld w 5 s) (some ⟨w.heap.size, 0, none⟩) (grownCap w s.size 0 5) (s.data.toList.map fun b => (b.toNat : Int)) := by
  have hsz : (s.data.toList.map fun b => (b.toNat : Int)).length = s.size := by rw [List.length_map]; rfl
  refine ⟨by rw [hsz]; exact grownCap_ge _ _ _ _, grownCap_le_maxLen _ _ _ _ (by unfold maxLen; omega), fun x hx => ?_, .inr ⟨_, rfl, Nat.le_refl _, by rw [Lib.bytesWorld_size]; omega, fun j hj => ⟨?_, ?_⟩⟩⟩
  · obtain ⟨b, -, rfl⟩ := List.mem_map.1 hx
    have := UInt8.toNat_lt b
    omega
  · rw [hsz] at hj
    rw [Lib.bytesWorld_cell w 5 s j hj]
    congr 2
    have hj2 : j < s.data.toList.length := by simpa using hj
    rw [List.getD_eq_getElem?_getD, List.getElem?_eq_getElem hj2, List.getElem_map]
    rfl
  · rw [hsz] at hj
    have hb : s.size ≤ (Lib.bytesCells w 5 s).size := by simp [Lib.bytesCells]
    simp [World.frozen?, Lib.bytesWorld_at_new]
    omega
theorem bytesWorld_only (w : World) (s : ByteArray) : Only [] w (Lib.bytesWorld w 5 s) :=
  ⟨rfl, rfl, rfl, by rw [Lib.bytesWorld_size]; omega, fun k hk _ => Lib.bytesWorld_at_old w 5 s k hk⟩
set_option maxHeartbeats 16000000 in
theorem corrupt_any (g : Nat) (fc : List Nat) (l : List UInt8) (s al : ByteArray) (w : World) (h : Src w g fc l) (hl : l.length ≤ 4096) (hs : s.size ≤ 1000000) (ha1 : 1 ≤ al.size) (ha2 : al.size ≤ 1000) :
    Calls Try.prog 34 #[.pointer (some ⟨g, 0, none⟩), .string s, .string al] w fun e w' => ∃ t, e = .returned (.string t) ∧ t.size ≤ s.size + 3 ∧ Src w' g fc l ∧ Only [g] w w' := by
  obtain ⟨i0, hi, hz0, hz1, hz2⟩ := info_parts Try.infoU8c
  have hg := h.lt
  have hfc : ∀ b ∈ fc, b < w.heap.size := by obtain ⟨_, _, _, _, _, _, _, h4, _⟩ := h; exact fun b hb => Rp.lt h4 b hb
  have hcv := Lib.run_convert_string_bytes (P := Try.prog) w 9 22 5 s Try.underlying9 Try.underlying22 Try.underlying5
  have hM := BBs.made w s hs
  have hm := bytesWorld_only w s
  obtain ⟨W1, hW1⟩ : ∃ W, W = Lib.bytesWorld w 5 s := ⟨_, rfl⟩
  obtain ⟨bs, hbs⟩ : ∃ bs, bs = s.data.toList.map fun b => (b.toNat : Int) := ⟨_, rfl⟩
  have hbl : bs.length = s.size := by rw [hbs, List.length_map]; rfl
  rw [← hW1] at hcv hm hM
  rw [← hbs, ← hbl] at hM
  rw [← hbl] at hcv hs
  obtain ⟨cp, hcp⟩ : ∃ cp, cp = grownCap w bs.length 0 5 := ⟨_, rfl⟩
  rw [← hcp] at hcv hM
  have Hbl := Lib.hid hbl
  have hal0 : (1 : Int) ≤ (al.size : Int) := by omega
  clear hW1 hbs hbl hcp
  go_enter Try.func34, Try.ntmps34
  go_wp2_with (first
    | (go_at_call 23; (with_reducible refine (srcBelow_any g fc l 3 W1 (h.keep hm) hl (by omega)).mono ?_); rintro e w2 ⟨k, rfl, k0, k3, D2, K2⟩; have hM2 := hM.only K2 (by simp; omega); have k2 : Only [g] w w2 := (hm.weaken [g]).trans K2)
    | fail "no arm")
  have hk3 : k ≤ 3 := by omega
  clear hM hm K2 k3 hcv
  go_loopw [7, 8] (fun o x wr => ∃ (k : Int) (a : Option Addr) (c : Nat) (q : List Int), o = .slice a q.length c ∧ x = .int .i64 k ∧ 0 ≤ k ∧ (q.length : Int) + k ≤ s.size + 3 ∧ BBs w.heap.size wr a c q ∧ Src wr g fc l ∧ Only [g] w wr)
    (fun _ x _ => (intOf x).toNat)
  case atStart => exact ⟨k, _, cp, bs, rfl, rfl, k0, by rw [Hbl.out]; omega, hM2, D2, k2⟩
  case round =>
    obtain ⟨W2, hnew⟩ : ∃ W, W = wr := ⟨_, rfl⟩
    subst hnew
    clear hM2 D2 k2 k0 hk3
    obtain ⟨k, a, c, q, rfl, rfl, k0, hqk, hM, hD, hO⟩ := hrel
    have hsl : s.size ≤ 1000000 := by rw [← Hbl.out]; exact hs
    have hqc := hM.len
    have hcm := hM.cap
    unfold maxLen at hcm
    by_cases hgo : 0 < k ∧ 0 < q.length
    · obtain ⟨h1, h2⟩ := hgo
      have h2I : (0 : Int) < (q.length : Int) := by omega
      have hw : IntKind.i64.wrap (k - 1) = k - 1 := by rw [IntKind.wrap_i64]; omega
      obtain ⟨gb, rfl, hgb, -⟩ : ∃ gb, a = some ⟨gb, 0, none⟩ ∧ w.heap.size ≤ gb ∧ True := by
        rcases hM.fm with ⟨-, e⟩ | ⟨gb, e, e2, -⟩
        · rw [e] at h2; simp at h2
        · exact ⟨gb, e, e2, trivial⟩
      go_upto_region 7 with (first
        | (go_at_call 23; (with_reducible refine (srcBelow_any g fc l (q.length : Int) W2 hD hl (by omega)).mono ?_); rintro e w3 ⟨x3, rfl, x30, x31, D3, K3⟩; have hM3 := hM.only K3 (by simp; omega))
        | (go_at_call 23; (with_reducible refine (srcBelow_any g fc l 4 w3 D3 hl (by omega)).mono ?_); rintro e w4 ⟨r, rfl, r0, r1, D4, K4⟩; have hM4 := hM3.only K4 (by simp; omega))
        | fail "no arm")
      obtain ⟨m, rfl⟩ := Int.eq_ofNat_of_zero_le x30
      have hmq : m < q.length := by omega
      have hm0 : (0 : Int) ≤ (m : Int) := by omega
      have hmI : (m : Int) < (q.length : Int) := by omega
      have K24 := hO.trans (K3.trans K4)
      clear hM3 hM hD D3 K3 K4 x30 x31 hO
      by_cases e0 : r = 0
      · subst e0
        go_wp2_with (first
          | (go_at_call 23; (with_reducible refine (srcBelow_any g fc l (al.size : Int) w4 D4 hl (by omega)).mono ?_); rintro e w5 ⟨y, rfl, y0, y1, D5, K5⟩; obtain ⟨yn, rfl⟩ := Int.eq_ofNat_of_zero_le y0; have hyn : yn < al.size := (by omega); have hynI : (yn : Int) < (al.size : Int) := (by omega); have hyn0 : (0 : Int) ≤ (yn : Int) := (by omega); have hM5 := hM4.only K5 (by simp; omega); obtain ⟨hc5, hf5⟩ := hM5.at_ hmq; obtain ⟨y5, hy5⟩ : ∃ t, w5.cell? ⟨gb, m, none⟩ = some t := ⟨_, hc5⟩; have HM5 := Lib.hid hM5; clear hM5 hc5 hM4)
          | fail "no arm")
        have hb : (al[yn].toNat : Int) < 256 := by have := UInt8.toNat_lt al[yn]; omega
        have kst : Only [gb] w5 (w5.setCell ⟨gb, m, none⟩ (.int .u8 (al[yn].toNat : Int))) := (Only.refl _ _).setCell (by simp) _
        exact ⟨⟨k - 1, some ⟨gb, 0, none⟩, c, q.set m (al[yn].toNat : Int), by rw [List.length_set], rfl, by omega, by rw [List.length_set]; omega, HM5.out.put hmq ⟨by omega, hb⟩, D5.only kst (by simp; omega) (fun b hb hm => by have := hfc b hb; simp at hm; omega), (K24.trans K5).then_ kst (fun b hb hl => by simp at hb; omega)⟩, by simp [intOf]; omega⟩
      · by_cases e1 : r = 1
        · subst e1
          have hmc : (m : Int) ≤ (c : Int) := by omega
          have hT := hM4.take m (by omega)
          have htl : (q.take m).length = m := by rw [List.length_take]; omega
          have Htl := Lib.hid htl
          clear htl
          go_wp2
          exact ⟨⟨k - 1, some ⟨gb, 0, none⟩, c, q.take m, by rw [Htl.out], rfl, by omega, by rw [Htl.out]; omega, hT, D4, K24⟩, by simp [intOf]; omega⟩
        · by_cases e2 : r = 2
          · subst e2
            have hmc : (m : Int) ≤ (c : Int) := by omega
            have hmn : m ≤ c := by omega
            obtain ⟨mm, hmm⟩ : ∃ mm, mm = m + 1 := ⟨_, rfl⟩
            have hw1 : IntKind.i64.wrap ((m : Int) + 1) = (mm : Int) := by rw [IntKind.wrap_i64]; omega
            have hmq2 : (mm : Int) ≤ (q.length : Int) := by omega
            have hmc2 : (mm : Int) ≤ (c : Int) := by omega
            have hmm0 : (0 : Int) ≤ (mm : Int) := by omega
            have hmql : mm ≤ q.length := by omega
            have hqcI : (q.length : Int) ≤ (c : Int) := by omega
            have hq16 : q.length ≤ 1000010 := by omega
            have HTl : Hid (((q.take m).map (Value.int .u8)).length = m * 1) := Lib.hid (by rw [List.length_map, List.length_take]; omega)
            have HDl : Hid (((q.drop mm).map (Value.int .u8)).length = (q.length - mm) * 1) := Lib.hid (by rw [List.length_map, List.length_drop]; omega)
            have hrow0 : (w4.alloc (.cells #[] 5)).ownsRow w4.heap.size 5 1 (.slice (some ⟨w4.heap.size, 0, none⟩) 0 0) 0 [] := ⟨rfl, .inr ⟨_, 0, #[], rfl, Nat.le_refl _, heap_alloc_new w4 _, Nat.le_refl _, by simp [maxLen], rfl, rfl⟩⟩
            have hg4 : g < w4.heap.size := Nat.lt_of_lt_of_le hg K24.size
            have hs4 : w.heap.size ≤ w4.heap.size := K24.size
            have Hrow0 := Lib.hid hrow0
            have hend : ∀ v6 w6, w6.ownsRow w4.heap.size 5 1 v6 (0 + m + (q.length - mm)) (([] ++ (q.take m).map (Value.int .u8)) ++ (q.drop mm).map (Value.int .u8)) → Only [] w4 w6 →
                ∃ a c q', v6 = .slice a (q' : List Int).length c ∧ (q'.length : Int) ≤ q.length ∧ BBs w.heap.size w6 a c q' ∧ Src w6 g fc l ∧ Only [g] w w6 := fun v6 w6 hO6 ho => by
              have hc : ([] ++ (q.take m).map (Value.int .u8)) ++ (q.drop mm).map (Value.int .u8) = (q.take m ++ q.drop mm).map (Value.int .u8) := by simp
              have hn : 0 + m + (q.length - mm) = (q.take m ++ q.drop mm).length := by rw [List.length_append, List.length_take, List.length_drop]; omega
              rw [hc, hn] at hO6
              obtain ⟨a6, c6, e6, hB6⟩ := BBs.ofRow hO6 hs4 (fun x hx => by
                rcases List.mem_append.1 hx with h | h
                · exact hM4.rng x (List.mem_of_mem_take h)
                · exact hM4.rng x (List.mem_of_mem_drop h))
              exact ⟨a6, c6, _, e6, by rw [← hn]; omega, hB6, D4.keep ho, K24.keepThen ho⟩
            have Hend := Lib.hid hend
            have HM4 := Lib.hid hM4
            clear hend hM4 hrow0 hmm
            by_cases hck : c = mm
            · subst hck
              have hd0 : q.drop c = [] := List.drop_eq_nil_of_le (by omega)
              have Hd0 := Lib.hid hd0
              clear hd0
              go_wp2
              go_region_law (first
                | (refine step_app _ rfl (.tmp 47) (.tmp 50) 22 rfl w4.heap.size 5 i0 _ 1 1 Try.underlying22 hi hz0 hz1 hz2 rfl (by omega) (.slice (some ⟨w4.heap.size, 0, none⟩) 0 0) 0 [] rfl (rowOnly (fp := []) Hrow0.out (by with_reducible repeat (first | exact Only.refl _ _ | assumption | refine Only.drewN ?_ _ | refine Only.drew ?_ | refine Only.alloc ?_ _ | refine Only.trans ?_ (by assumption))) (by simp)) (some ⟨gb, 0, none⟩) m c ((q.take m).map (Value.int .u8)) rfl HTl.out ((HM4.out.only (fp := []) (by with_reducible repeat (first | exact Only.refl _ _ | assumption | refine Only.drewN ?_ _ | refine Only.drew ?_ | refine Only.alloc ?_ _ | refine Only.trans ?_ (by assumption))) (by simp)).srcT m (by omega)) (by intro hh; cases hh) (bb_one _) (by unfold maxLen; omega) (by omega) (Only.size (fp := []) (by with_reducible repeat (first | exact Only.refl _ _ | assumption | refine Only.drewN ?_ _ | refine Only.drew ?_ | refine Only.alloc ?_ _ | refine Only.trans ?_ (by assumption)))) ?_; intro v5 w5 hO5 hg5 hb5; have o5 : Only [] w4 w5 := Only.grown (by with_reducible repeat (first | exact Only.refl _ _ | assumption | refine Only.drewN ?_ _ | refine Only.drew ?_ | refine Only.alloc ?_ _ | refine Only.trans ?_ (by assumption))) hg5 (by intro z hz hzl; have := (Hrow0.out.lt z hz).1; omega))
                | (refine step_app _ rfl (.tmp 51) (.tmp 55) 22 rfl w4.heap.size 5 i0 _ 1 1 Try.underlying22 hi hz0 hz1 hz2 rfl (by omega) v5 (0 + m) ([] ++ (q.take m).map (Value.int .u8)) rfl (rowOnly (fp := []) hO5 (by with_reducible repeat (first | exact Only.refl _ _ | assumption | refine Only.drewN ?_ _ | refine Only.drew ?_ | refine Only.alloc ?_ _ | refine Only.trans ?_ (by assumption))) (by simp)) (some ⟨gb, 0, none⟩) 0 0 [] rfl rfl (by intro ad hh j1 u hu; simp at hu) (by intro hh; cases hh) (by intro u hu; simp at hu) (by unfold maxLen; omega) (by omega) (Only.size (fp := []) (by with_reducible repeat (first | exact Only.refl _ _ | assumption | refine Only.drewN ?_ _ | refine Only.drew ?_ | refine Only.alloc ?_ _ | refine Only.trans ?_ (by assumption)))) ?_; intro v6 w6 hO6 hg6 hb6; have o6 : Only [] w4 w6 := Only.grown (by with_reducible repeat (first | exact Only.refl _ _ | assumption | refine Only.drewN ?_ _ | refine Only.drew ?_ | refine Only.alloc ?_ _ | refine Only.trans ?_ (by assumption))) hg6 (by intro z hz hzl; have := (hO5.lt z hz).1; omega))
                | fail "no arm")
              all_goals (
                obtain ⟨a6, c6, q6, e6, hq6, hM6, D6, K6⟩ := Hend.out v6 w6 (by have e : q.length - c = 0 := (by omega); rw [e, Hd0.out]; simpa using hO6) o6
                subst e6
                go_wp2_with fail
                exact ⟨⟨k - 1, a6, c6, q6, rfl, rfl, by omega, by omega, hM6, D6, K6⟩, by simp [intOf]; omega⟩)

            · go_wp2
              go_region_law (first
                | (refine step_app _ rfl (.tmp 47) (.tmp 50) 22 rfl w4.heap.size 5 i0 _ 1 1 Try.underlying22 hi hz0 hz1 hz2 rfl (by omega) (.slice (some ⟨w4.heap.size, 0, none⟩) 0 0) 0 [] rfl (rowOnly (fp := []) Hrow0.out (by with_reducible repeat (first | exact Only.refl _ _ | assumption | refine Only.drewN ?_ _ | refine Only.drew ?_ | refine Only.alloc ?_ _ | refine Only.trans ?_ (by assumption))) (by simp)) (some ⟨gb, 0, none⟩) m c ((q.take m).map (Value.int .u8)) rfl HTl.out ((HM4.out.only (fp := []) (by with_reducible repeat (first | exact Only.refl _ _ | assumption | refine Only.drewN ?_ _ | refine Only.drew ?_ | refine Only.alloc ?_ _ | refine Only.trans ?_ (by assumption))) (by simp)).srcT m (by omega)) (by intro hh; cases hh) (bb_one _) (by unfold maxLen; omega) (by omega) (Only.size (fp := []) (by with_reducible repeat (first | exact Only.refl _ _ | assumption | refine Only.drewN ?_ _ | refine Only.drew ?_ | refine Only.alloc ?_ _ | refine Only.trans ?_ (by assumption)))) ?_; intro v5 w5 hO5 hg5 hb5; have o5 : Only [] w4 w5 := Only.grown (by with_reducible repeat (first | exact Only.refl _ _ | assumption | refine Only.drewN ?_ _ | refine Only.drew ?_ | refine Only.alloc ?_ _ | refine Only.trans ?_ (by assumption))) hg5 (by intro z hz hzl; have := (Hrow0.out.lt z hz).1; omega))
                | (refine step_app _ rfl (.tmp 51) (.tmp 55) 22 rfl w4.heap.size 5 i0 _ 1 1 Try.underlying22 hi hz0 hz1 hz2 rfl (by omega) v5 (0 + m) ([] ++ (q.take m).map (Value.int .u8)) rfl (rowOnly (fp := []) hO5 (by with_reducible repeat (first | exact Only.refl _ _ | assumption | refine Only.drewN ?_ _ | refine Only.drew ?_ | refine Only.alloc ?_ _ | refine Only.trans ?_ (by assumption))) (by simp)) (some ⟨gb, mm, none⟩) (q.length - mm) (c - mm) ((q.drop mm).map (Value.int .u8)) rfl HDl.out ((HM4.out.only (fp := []) (by with_reducible repeat (first | exact Only.refl _ _ | assumption | refine Only.drewN ?_ _ | refine Only.drew ?_ | refine Only.alloc ?_ _ | refine Only.trans ?_ (by assumption))) (by simp)).src mm) (by intro hh; cases hh) (bb_one _) (by unfold maxLen; omega) (by omega) (Only.size (fp := []) (by with_reducible repeat (first | exact Only.refl _ _ | assumption | refine Only.drewN ?_ _ | refine Only.drew ?_ | refine Only.alloc ?_ _ | refine Only.trans ?_ (by assumption)))) ?_; intro v6 w6 hO6 hg6 hb6; have o6 : Only [] w4 w6 := Only.grown (by with_reducible repeat (first | exact Only.refl _ _ | assumption | refine Only.drewN ?_ _ | refine Only.drew ?_ | refine Only.alloc ?_ _ | refine Only.trans ?_ (by assumption))) hg6 (by intro z hz hzl; have := (hO5.lt z hz).1; omega))
                | fail "no arm")
              all_goals (
                obtain ⟨a6, c6, q6, e6, hq6, hM6, D6, K6⟩ := Hend.out v6 w6 hO6 o6
                subst e6
                go_wp2_with fail
                exact ⟨⟨k - 1, a6, c6, q6, rfl, rfl, by omega, by omega, hM6, D6, K6⟩, by simp [intOf]; omega⟩)
          · have e3 : r = 3 := by omega
            subst e3
            have hmc : (m : Int) ≤ (c : Int) := by omega
            have hmn : m ≤ c := by omega
            have hcm2 : ¬ c = m := by omega
            have hmqI : (m : Int) ≤ (q.length : Int) := by omega
            have hqcI : (q.length : Int) ≤ (c : Int) := by omega
            have hq16 : q.length ≤ 1000010 := by omega
            have HTl : Hid (((q.take m).map (Value.int .u8)).length = m * 1) := Lib.hid (by rw [List.length_map, List.length_take]; omega)
            have HDl : Hid (((q.drop m).map (Value.int .u8)).length = (q.length - m) * 1) := Lib.hid (by rw [List.length_map, List.length_drop]; omega)
            have hrow0 : (w4.alloc (.cells #[] 5)).ownsRow w4.heap.size 5 1 (.slice (some ⟨w4.heap.size, 0, none⟩) 0 0) 0 [] := ⟨rfl, .inr ⟨_, 0, #[], rfl, Nat.le_refl _, heap_alloc_new w4 _, Nat.le_refl _, by simp [maxLen], rfl, rfl⟩⟩
            have hg4 : g < w4.heap.size := Nat.lt_of_lt_of_le hg K24.size
            have hs4 : w.heap.size ≤ w4.heap.size := K24.size
            have hfc4 : ∀ b ∈ fc, b < w4.heap.size := fun b hb => Nat.lt_of_lt_of_le (hfc b hb) hs4
            have Hrow0 := Lib.hid hrow0
            have Hfc4 := Lib.hid hfc4
            have hend : ∀ (z : Int) v9 w9, 0 ≤ z → z < 256 → w9.ownsRow w4.heap.size 5 1 v9 (0 + m + 1 + (q.length - m)) ((([] ++ (q.take m).map (Value.int .u8)) ++ [.int .u8 z]) ++ (q.drop m).map (Value.int .u8)) → Only [g] w4 w9 →
                ∃ a c q', v9 = .slice a (q' : List Int).length c ∧ (q'.length : Int) ≤ q.length + 1 ∧ BBs w.heap.size w9 a c q' ∧ Only [g] w w9 := fun z v9 w9 z0 z1 hO9 ho => by
              have hc : (([] ++ (q.take m).map (Value.int .u8)) ++ [Value.int .u8 z]) ++ (q.drop m).map (Value.int .u8) = (q.take m ++ (z :: q.drop m)).map (Value.int .u8) := by simp
              have hn : 0 + m + 1 + (q.length - m) = (q.take m ++ (z :: q.drop m)).length := by rw [List.length_append, List.length_take, List.length_cons, List.length_drop]; omega
              rw [hc, hn] at hO9
              obtain ⟨a6, c6, e6, hB6⟩ := BBs.ofRow hO9 hs4 (fun x hx => by
                rcases List.mem_append.1 hx with h | h
                · exact hM4.rng x (List.mem_of_mem_take h)
                · rcases List.mem_cons.1 h with h | h
                  · rw [h]; exact ⟨z0, z1⟩
                  · exact hM4.rng x (List.mem_of_mem_drop h))
              exact ⟨a6, c6, _, e6, by rw [← hn]; omega, hB6, K24.trans ho⟩
            have Hend := Lib.hid hend
            have HM4 := Lib.hid hM4
            clear hend hM4 hrow0 hfc4
            go_wp2
            go_region_law (first
              | (refine step_app _ rfl (.tmp 59) (.tmp 62) 22 rfl w4.heap.size 5 i0 _ 1 1 Try.underlying22 hi hz0 hz1 hz2 rfl (by omega) (.slice (some ⟨w4.heap.size, 0, none⟩) 0 0) 0 [] rfl (rowOnly (fp := []) Hrow0.out (by with_reducible repeat (first | exact Only.refl _ _ | assumption | refine Only.drewN ?_ _ | refine Only.drew ?_ | refine Only.alloc ?_ _ | refine Only.trans ?_ (by assumption))) (by simp)) (some ⟨gb, 0, none⟩) m c ((q.take m).map (Value.int .u8)) rfl HTl.out ((HM4.out.only (fp := []) (by with_reducible repeat (first | exact Only.refl _ _ | assumption | refine Only.drewN ?_ _ | refine Only.drew ?_ | refine Only.alloc ?_ _ | refine Only.trans ?_ (by assumption))) (by simp)).srcT m (by omega)) (by intro hh; cases hh) (bb_one _) (by unfold maxLen; omega) (by omega) (Only.size (fp := []) (by with_reducible repeat (first | exact Only.refl _ _ | assumption | refine Only.drewN ?_ _ | refine Only.drew ?_ | refine Only.alloc ?_ _ | refine Only.trans ?_ (by assumption)))) ?_; intro v5 w5 hO5 hg5 hb5; have o5 : Only [] w4 w5 := Only.grown (by with_reducible repeat (first | exact Only.refl _ _ | assumption | refine Only.drewN ?_ _ | refine Only.drew ?_ | refine Only.alloc ?_ _ | refine Only.trans ?_ (by assumption))) hg5 (by intro z hz hzl; have := (Hrow0.out.lt z hz).1; omega); have o5g := o5.weaken [g])
              | (go_simp; go_at_call 23; (with_reducible refine (srcBelow_any g fc l (al.size : Int) _ (D4.keep (by with_reducible repeat (first | exact Only.refl _ _ | assumption | refine Only.drewN ?_ _ | refine Only.drew ?_ | refine Only.alloc ?_ _ | refine Only.trans ?_ (by assumption)))) hl (by omega)).mono ?_); rintro en w7 ⟨y, rfl, y0, y1, D7, K7⟩; have K47 : Only [g] w4 w7 := Only.trans (by with_reducible repeat (first | exact Only.refl _ _ | assumption | refine Only.drewN ?_ _ | refine Only.drew ?_ | refine Only.alloc ?_ _ | refine Only.trans ?_ (by assumption))) K7; obtain ⟨yn, rfl⟩ := Int.eq_ofNat_of_zero_le y0; have hyn : yn < al.size := (by omega); have hynI : (yn : Int) < (al.size : Int) := (by omega); have hyn0 : (0 : Int) ≤ (yn : Int) := (by omega); have hb256 : (al[yn].toNat : Int) < 256 := (by have := UInt8.toNat_lt al[yn]; omega))
              | (refine step_app _ rfl (.tmp 63) (.tmp 70) 22 rfl w4.heap.size 5 i0 _ 1 1 Try.underlying22 hi hz0 hz1 hz2 rfl (by omega) v5 (0 + m) ([] ++ (q.take m).map (Value.int .u8)) rfl (rowOnly (fp := [g]) hO5 (by with_reducible repeat (first | exact Only.refl _ _ | assumption | refine Only.drewN ?_ _ | refine Only.drew ?_ | refine Only.alloc ?_ _ | refine Only.trans ?_ (by assumption))) (by simp; omega)) _ 1 1 [.int .u8 (al[yn].toNat : Int)] rfl rfl (lit_srcA _ [.int .u8 (al[yn].toNat : Int)] 5 rfl) (by intro hh; cases hh) (by intro u hu; simp at hu; subst hu; rfl) (by unfold maxLen; omega) (by omega) (Only.size (fp := [g]) (by with_reducible repeat (first | exact Only.refl _ _ | assumption | refine Only.drewN ?_ _ | refine Only.drew ?_ | refine Only.alloc ?_ _ | refine Only.trans ?_ (by assumption)))) ?_; intro v8 w8 hO8 hg8 hb8; have g8 : Only v5.ownBlock.toList _ w8 := Only.grown (Only.refl _ _) hg8 (by intro z hz hzl; simp [hz]); have D8 := (D7.keep (by with_reducible repeat (first | exact Only.refl _ _ | assumption | refine Only.drewN ?_ _ | refine Only.drew ?_ | refine Only.alloc ?_ _ | refine Only.trans ?_ (by assumption)))).only g8 (fun hm => by have := (hO5.lt g (by simpa using hm)).1; omega) (fun b hb hm => by have h1 := Hfc4.out b hb; have := (hO5.lt b (by simpa using hm)).1; omega); have o8 : Only [g] w4 w8 := Only.grown (by with_reducible repeat (first | exact Only.refl _ _ | assumption | refine Only.drewN ?_ _ | refine Only.drew ?_ | refine Only.alloc ?_ _ | refine Only.trans ?_ (by assumption))) hg8 (by intro z hz hzl; have := (hO5.lt z hz).1; omega))
              | (refine step_app _ rfl (.tmp 71) (.tmp 74) 22 rfl w4.heap.size 5 i0 _ 1 1 Try.underlying22 hi hz0 hz1 hz2 rfl (by omega) v8 (0 + m + 1) (([] ++ (q.take m).map (Value.int .u8)) ++ [.int .u8 (al[yn].toNat : Int)]) rfl (rowOnly (fp := []) hO8 (by with_reducible repeat (first | exact Only.refl _ _ | assumption | refine Only.drewN ?_ _ | refine Only.drew ?_ | refine Only.alloc ?_ _ | refine Only.trans ?_ (by assumption))) (by simp)) (some ⟨gb, m, none⟩) (q.length - m) (c - m) ((q.drop m).map (Value.int .u8)) rfl HDl.out ((HM4.out.only (fp := [g]) (by with_reducible repeat (first | exact Only.refl _ _ | assumption | refine Only.drewN ?_ _ | refine Only.drew ?_ | refine Only.alloc ?_ _ | refine Only.trans ?_ (by assumption))) (by simp; omega)).src m) (by intro hh; cases hh) (bb_one _) (by unfold maxLen; omega) (by omega) (Only.size (fp := [g]) (by with_reducible repeat (first | exact Only.refl _ _ | assumption | refine Only.drewN ?_ _ | refine Only.drew ?_ | refine Only.alloc ?_ _ | refine Only.trans ?_ (by assumption)))) ?_; intro v9 w9 hO9 hg9 hb9; have g9 : Only v8.ownBlock.toList _ w9 := Only.grown (Only.refl _ _) hg9 (by intro z hz hzl; simp [hz]); have D9 := (D8.keep (by with_reducible repeat (first | exact Only.refl _ _ | assumption | refine Only.drewN ?_ _ | refine Only.drew ?_ | refine Only.alloc ?_ _ | refine Only.trans ?_ (by assumption)))).only g9 (fun hm => by have := (hO8.lt g (by simpa using hm)).1; omega) (fun b hb hm => by have h1 := Hfc4.out b hb; have := (hO8.lt b (by simpa using hm)).1; omega); have o9 : Only [g] w4 w9 := Only.grown (by with_reducible repeat (first | exact Only.refl _ _ | assumption | refine Only.drewN ?_ _ | refine Only.drew ?_ | refine Only.alloc ?_ _ | refine Only.trans ?_ (by assumption))) hg9 (by intro z hz hzl; have := (hO8.lt z hz).1; omega))
              | fail "no arm")
            all_goals (
              obtain ⟨a6, c6, q6, e6, hq6, hM6, K6⟩ := Hend.out _ v9 w9 (by omega) hb256 hO9 o9
              subst e6
              go_wp2_with fail
              exact ⟨⟨k - 1, a6, c6, q6, rfl, rfl, by omega, by omega, hM6, D9, K6⟩, by simp [intOf]; omega⟩)
    · have hend : ¬ (0 < k) ∨ (0 < k ∧ ¬ ((0 : Int) < (q.length : Int))) := by omega
      clear hgo
      rcases hend with h1 | ⟨h0, h1⟩
      all_goals
        have h1I : True := trivial
        have hcs := hM.str (P := Try.prog) 22 5 Try.underlying22 Try.underlying5 9 Try.underlying9
        go_wp2
        go_ret
        exact ⟨strOfNums q, rfl, by rw [strOfNums_size]; omega, hD, hO⟩
end Go.Proofs.Ytpkplmnpepkdaaa

namespace Go.Proofs.Ytpkplmnpepkdaaa
open Go.RowKit
set_option maxRecDepth 10000
/-- three cells stored into a block of three -/
theorem Blk.set3 {V : World} {b : Nat} {x0 x1 x2 : Value} (h : Blk V b [x0, x1, x2]) (y0 y1 y2 : Value) : Blk (((V.setCell ⟨b, 0, none⟩ y0).setCell ⟨b, 1, none⟩ y1).setCell ⟨b, 2, none⟩ y2) b [y0, y1, y2] := ((h.set 0 y0).set 1 y1).set 2 y2
theorem only_set3 (V : World) (b : Nat) (y0 y1 y2 : Value) : Only [b] V (((V.setCell ⟨b, 0, none⟩ y0).setCell ⟨b, 1, none⟩ y1).setCell ⟨b, 2, none⟩ y2) := (((Only.refl _ _).setCell (by simp) _).setCell (by simp) _).setCell (by simp) _
end Go.Proofs.Ytpkplmnpepkdaaa

namespace Go.Proofs.Ytpkplmnpepkdaaa
open Go.RowKit
set_option maxRecDepth 10000

theorem flat_ones : ∀ {css : List (List Value)}, (∀ c ∈ css, c.length = 1) → ∃ us : List Value, css = us.map (fun u => [u]) ∧ css.flatten = us ∧ us.length = css.length
  | [], _ => ⟨[], rfl, rfl, rfl⟩
  | c :: css, h => by
    obtain ⟨us, h1, h2, h3⟩ := flat_ones (css := css) fun d hd => h d (List.mem_cons_of_mem _ hd)
    have hc := h c (List.mem_cons_self)
    match c, hc with
    | [u], _ => exact ⟨u :: us, by rw [h1]; rfl, by rw [List.flatten_cons, h2]; rfl, by simp [h3]⟩
theorem ones_flat (us : List Value) : (us.map (fun u => [u])).flatten = us := by
  induction us with
  | nil => rfl
  | cons u us ih => simp [ih]
section
variable {B : Nat} {e : TypeId} {w : World} {v : Value} {L : List (List Int)} {fs : List (List Nat)}
theorem Acc.rows (h : Acc B e w v L fs) : ∃ us : List Value, w.ownsRow B e 1 v L.length us ∧ us.length = L.length ∧ ∀ k (h1 : k < us.length) (h2 : k < L.length) (h3 : k < fs.length), Rd w us[k] L[k] fs[k] := by
  obtain ⟨css, ho, hcl, hr⟩ := h.own
  have hf := h.fl
  have h1 : ∀ c ∈ css, c.length = 1 := fun c hc => by
    obtain ⟨k, hk, rfl⟩ := List.getElem_of_mem hc
    exact Rp.len (hr k hk (by omega) (by omega))
  obtain ⟨us, e1, e2, e3⟩ := flat_ones h1
  rw [e2] at ho
  refine ⟨us, ho, by omega, fun k k1 k2 k3 => ?_⟩
  have := hr k (by omega) k2 k3
  simp only [e1, List.getElem_map] at this
  exact this
theorem Acc.ofRows {us : List Value} (ho : w.ownsRow B e 1 v L.length us) (hl : us.length = L.length) (hf : fs.length = L.length) (hr : ∀ k (h1 : k < us.length) (h2 : k < L.length) (h3 : k < fs.length), Rd w us[k] L[k] fs[k]) (ha : ∀ g, v.ownBlock = some g → g ∉ fs.flatten) : Acc B e w v L fs := by
  refine ⟨⟨us.map (fun u => [u]), by rw [ones_flat]; exact ho, by rw [List.length_map, hl], fun k h1 h2 h3 => ?_⟩, hf, ha⟩
  have := hr k (by simpa using h1) h2 h3
  simpa using this
/-- a row's cell -/
theorem Acc.cellRow (h : Acc B e w v L fs) {k : Nat} (hk : k < L.length) : ∃ (g c : Nat) (u : Value) (f : List Nat), v = .slice (some ⟨g, 0, none⟩) L.length c ∧ w.cell? ⟨g, k, none⟩ = some u ∧ w.frozen? ⟨g, k, none⟩ = false ∧ Rd w u L[k] f ∧ fs[k]? = some f ∧ B ≤ g ∧ g < w.heap.size := by
  obtain ⟨us, hO, hl, hr⟩ := h.rows
  have hf := h.fl
  obtain ⟨g, cap, rfl, hb, -⟩ := hO.form (by omega)
  refine ⟨g, cap, us[k], fs[k], rfl, ?_, hO.frozenAt k, hr k (by omega) hk (by omega), List.getElem?_eq_getElem (by omega), hb, (h.ownlt g rfl).2⟩
  rw [hO.cellAt k (by omega)]
  simp [hl, hk]
theorem mem_flat_set {fs : List (List Nat)} {k : Nat} {f : List Nat} {b : Nat} (h : b ∈ (fs.set k f).flatten) : b ∈ f ∨ b ∈ fs.flatten := by
  obtain ⟨f', h1, h2⟩ := List.mem_flatten.1 h
  rcases List.mem_or_eq_of_mem_set h1 with h3 | rfl
  · exact .inr (List.mem_flatten.2 ⟨f', h3, h2⟩)
  · exact .inl h2
/-- a row is written over -/
theorem Acc.putRow (h : Acc B e w v L fs) {k g c : Nat} (hk : k < L.length) (hv : v = .slice (some ⟨g, 0, none⟩) L.length c) {u : Value} {y : List Int} {f : List Nat} (hy : Rd w u y f) (hgf : g ∉ f) :
    Acc B e (w.setCell ⟨g, k, none⟩ u) v (L.set k y) (fs.set k f) ∧ Only [g] w (w.setCell ⟨g, k, none⟩ u) := by
  subst hv
  obtain ⟨us, hO, hl, hr⟩ := h.rows
  have hf := h.fl
  obtain ⟨g', cap', e1, hb, -⟩ := hO.form (by omega)
  injection e1 with e1 _ e2
  injection e1 with e1
  injection e1 with e1
  subst e1
  subst e2
  obtain ⟨hO2, -⟩ := hO.stored k u
  have kst : Only [g] w (w.setCell ⟨g, k, none⟩ u) := (Only.refl _ _).setCell (by simp) _
  have hap := h.apart g rfl
  refine ⟨Acc.ofRows (us := us.set k u) (by rw [List.length_set]; exact hO2) (by rw [List.length_set, List.length_set]; exact hl) (by rw [List.length_set, List.length_set]; exact hf) (fun j h1 h2 h3 => ?_) (fun g' hg' => ?_), kst⟩
  · by_cases e : k = j
    · subst e
      simp only [List.getElem_set_self]
      exact Rp.only hy kst (fun b hq hm => by have h7 : b = g := by simpa using hm
                                              rw [h7] at hq; exact hgf hq)
    · simp only [List.getElem_set_ne e]
      rw [List.length_set] at h1 h2 h3
      refine Rp.only (hr j h1 h2 h3) kst (fun b hq hm => ?_)
      have h7 : b = g := by simpa using hm
      rw [h7] at hq
      exact hap (List.mem_flatten.2 ⟨_, List.getElem_mem h3, hq⟩)
  · have : g' = g := by
      have h9 : (Value.slice (some ⟨g, 0, none⟩) L.length c).ownBlock = some g := rfl
      rw [h9] at hg'; injection hg' with h8; exact h8.symm
    subst this
    intro hm
    rcases mem_flat_set hm with hm | hm
    · exact hgf hm
    · exact hap hm
end
end Go.Proofs.Ytpkplmnpepkdaaa

namespace Go.Proofs.Ytpkplmnpepkdaaa
open Go.RowKit
set_option maxRecDepth 10000
theorem AccI.frame {B : Nat} {e : TypeId} {w w' : World} {v : Value} {l : List Int} (h : AccI B e w v l) (hf : ∀ b ∈ v.ownBlock.toList, w'.heap[b]? = w.heap[b]?) : AccI B e w' v l := by
  obtain ⟨hO, hw⟩ := h.row
  refine AccI.ofRow ⟨hO.1, ?_⟩ hw
  rcases hO.2 with h1 | ⟨g, cp, cur, rfl, hb, hg, hrest⟩
  · exact .inl h1
  · exact .inr ⟨g, cp, cur, rfl, hb, by rw [hf g (by simp [Value.ownBlock])]; exact hg, hrest⟩
end Go.Proofs.Ytpkplmnpepkdaaa

namespace Go.Proofs.Ytpkplmnpepkdaaa
open Go.RowKit
set_option maxRecDepth 10000
theorem frozen_keep {w w' : World} {p : Addr} {fp : List Nat} (h : w.frozen? p = false) (ho : Only fp w w') (hp : p.block < w.heap.size) (hn : p.block ∉ fp) : w'.frozen? p = false := by
  have e := ho.block p.block hp hn
  simp only [World.frozen?, e] at h ⊢
  exact h
end Go.Proofs.Ytpkplmnpepkdaaa

namespace Go.Proofs.Ytpkplmnpepkdaaa
open Go.RowKit
set_option maxRecDepth 10000

/-- a drawn puzzle; if it is valid it has few points -/
def PzV (w : World) (g : Nat) (fc : List Nat) (l : List UInt8) (e : Ending) (w' : World) : Prop := ∃ (n : Int) (nm : ByteArray) (vm : Value) (gs : List (List Int)) (fp : List Nat), e = .returned (.agg #[.int .i64 n, .string nm, vm]) ∧ I64 n ∧ nm.size ≤ 20 ∧ Rd w' vm gs fp ∧ (∀ b ∈ fp, w.heap.size ≤ b) ∧ gs.length ≤ 9 ∧ (∀ y : List Int, y ∈ gs → y.length ≤ 30) ∧ (validPz (⟨n, nm, gs⟩ : Puzzle) = true → n ≤ 5) ∧ Src w' g fc l ∧ Only [g] w w'
theorem pzv_fin {w V : World} {g : Nat} {fc : List Nat} {l : List UInt8} {n : Int} {nm : ByteArray} {vm : Value} {gs : List (List Int)} {fp : List Nat} (hg : g < w.heap.size) (hfc : ∀ b ∈ fc, b < w.heap.size) (hn : I64 n) (h2 : nm.size ≤ 20) (h3 : Rd V vm gs fp) (h4 : ∀ b ∈ fp, w.heap.size + 1 ≤ b) (h5 : gs.length ≤ 9) (h6 : ∀ y : List Int, y ∈ gs → y.length ≤ 30) (h7 : validPz (⟨n, nm, gs⟩ : Puzzle) = true → n ≤ 5) (D : Src V g fc l) (k : Only [g] w V) :
    PzV w g fc l (.returned (.agg #[.int .i64 n, .string nm, vm])) (((V.setCell ⟨w.heap.size, 0, none⟩ (.int .i64 n)).setCell ⟨w.heap.size, 1, none⟩ (.string nm)).setCell ⟨w.heap.size, 2, none⟩ vm) := by
  have kst := only_set3 V w.heap.size (.int .i64 n) (.string nm) vm
  have hd : ∀ b ∈ fp, b ∉ [w.heap.size] := fun b hb hm => by have := h4 b hb; simp at hm; omega
  exact ⟨n, nm, vm, gs, fp, rfl, hn, h2, Rp.only h3 kst hd, fun b hb => by have := h4 b hb; omega, h5, h6, h7, D.only kst (by simp; omega) (fun b hb hm => by have := hfc b hb; simp at hm; omega), k.then_ kst (fun b hb hl => by simp at hb; omega)⟩
theorem pz_len {n : Int} {nm : ByteArray} {gs : List (List Int)} {y : List Int} (hy : y ∈ gs) (h : validPz (⟨n, nm, gs⟩ : Puzzle) = true) : n = y.length := by
  obtain ⟨-, -, -, h4⟩ := validPz_facts h
  exact (h4 y hy).1.symm
theorem abc_size {k : Nat} (h : k ≤ 3) : ((⟨#[65, 66, 67]⟩ : ByteArray).extract 0 k).size = k := by
  rcases k with _ | _ | _ | _ | k
  · rfl
  · rfl
  · rfl
  · rfl
  · omega
/-- the puzzle's variable while its moves are drawn -/
def VzL (eS : TypeId) (w : World) (g : Nat) (fc : List Nat) (l : List UInt8) (pb n : Nat) (nm : ByteArray) (j : Nat) (wx : World) : Prop :=
  ∃ (gs : List (List Int)) (fs : List (List Nat)) (am : Option Addr) (cm : Nat), Blk wx w.heap.size [.int .i64 0, .string ⟨#[]⟩, .slice none 0 0] ∧ Blk wx pb [.int .i64 n, .string nm, .slice am j cm] ∧ gs.length = j ∧ Acc (w.heap.size + 1) eS wx (.slice am j cm) gs fs ∧ Fresh (w.heap.size + 1) wx fs.flatten ∧ (pb ∉ (Value.slice am j cm).ownBlock.toList ∧ pb ∉ fs.flatten) ∧ (∀ y : List Int, y ∈ gs → y.length = n) ∧ Src wx g fc l ∧ Only [g] w wx
set_option maxHeartbeats 16000000 in
theorem drawVPuzzle_any (g : Nat) (fc : List Nat) (l : List UInt8) (w : World) (h : Src w g fc l) (hl : l.length ≤ 4096) :
    Calls Try.prog 31 #[.pointer (some ⟨g, 0, none⟩)] w (PzV w g fc l) := by
  obtain ⟨i0, hi, hz0, hz1, hz2⟩ := info_parts Try.info22
  have hg := h.lt
  have hfc : ∀ b ∈ fc, b < w.heap.size := by obtain ⟨_, _, _, _, _, _, _, h4, _⟩ := h; exact fun b hb => Rp.lt h4 b hb
  have hB0 := Blk.new w [.int .i64 0, .string ⟨#[]⟩, .slice none 0 0] 26
  have ho : Only [] w (w.alloc (.cells #[.int .i64 0, .string ⟨#[]⟩, .slice none 0 0] 26)) := (Only.refl _ _).alloc _
  have Hsz0 : Hid ((w.alloc (.cells #[.int .i64 0, .string ⟨#[]⟩, .slice none 0 0] 26)).heap.size = w.heap.size + 1) := Lib.hid (by simp)
  obtain ⟨W0, hW0⟩ : ∃ W, W = w.alloc (.cells #[.int .i64 0, .string ⟨#[]⟩, .slice none 0 0] 26) := ⟨_, rfl⟩
  have D0 := h.keep ho
  go_enter Try.func31, Try.ntmps31
  go_upto_region 1 with fail
  rw [← hW0] at hB0 ho Hsz0 D0 ⊢
  clear hW0
  go_cut [3] (fun s3 wx => ∃ n : Nat, s3 = .int .i64 n ∧ 3 ≤ n ∧ n ≤ 5 ∧ Src wx g fc l ∧ Only [g] W0 wx)
  case first =>
    go_wp2_with ((go_at_call 23; (with_reducible refine (srcBelow_any g fc l 3 W0 D0 hl (by omega)).mono ?_); rintro e w1 ⟨r, rfl, r0, r1, D1, K1⟩; obtain ⟨k, rfl⟩ := Int.eq_ofNat_of_zero_le r0; have hk1 : IntKind.i64.wrap (3 + (k : Int)) = ((3 + k : Nat) : Int) := (by rw [IntKind.wrap_i64]; omega)))
    go_meet
    exact ⟨3 + k, rfl, by omega, by omega, D1, K1⟩
  case rest =>
  obtain ⟨W1, hnew⟩ : ∃ W, W = wc := ⟨_, rfl⟩
  subst hnew
  obtain ⟨n, rfl, n3, n5, D1, K1⟩ := hcut
  refine (show ∀ a w, Code.wp Try.prog _ _ a w → _ from by assumption) _ _ ?_
  have s1 : w.heap.size + 1 ≤ W1.heap.size := by have := K1.size; rw [Hsz0.out] at this; exact this
  have B1 := hB0.only K1 (by simp; omega)
  have k1 : Only [g] w W1 := (ho.weaken [g]).trans K1
  clear hB0 ho D0 K1
  go_upto_region 4 with ((go_at_call 23; (with_reducible refine (srcBelow_any g fc l 3 W1 D1 hl (by omega)).mono ?_); rintro e w2 ⟨r, rfl, r0, r1, D2, K2⟩; obtain ⟨k, rfl⟩ := Int.eq_ofNat_of_zero_le r0; have hk1 : IntKind.i64.wrap (1 + (k : Int)) = ((1 + k : Nat) : Int) := (by rw [IntKind.wrap_i64]; omega); have hk2 : (0 : Int) ≤ ((1 + k : Nat) : Int) := (by omega); have hk3 : ((1 + k : Nat) : Int) ≤ 3 := (by omega)))
  obtain ⟨nm, hnm⟩ : ∃ nm, nm = (⟨#[65, 66, 67]⟩ : ByteArray).extract 0 (1 + k) := ⟨_, rfl⟩
  have hns : nm.size = 1 + k := by rw [hnm]; exact abc_size (by omega)
  rw [← hnm]
  have kal : Only [] w2 (w2.alloc (.cells #[.int .i64 n, .string nm, .slice none 0 0] 26)) := (Only.refl _ _).alloc _
  have B2 := (B1.only K2 (by simp; omega)).keep kal
  have Pb := Blk.new w2 [.int .i64 n, .string nm, .slice none 0 0] 26
  have D2a := D2.keep kal
  have k2 : Only [g] w (w2.alloc (.cells #[.int .i64 n, .string nm, .slice none 0 0] 26)) := (k1.trans K2).alloc _
  have s2 := K2.size
  have hpb3 : w2.heap.size < (w2.alloc (.cells #[.int .i64 n, .string nm, .slice none 0 0] 26)).heap.size := by simp
  obtain ⟨W2, hW2⟩ : ∃ W, W = w2.alloc (.cells #[.int .i64 n, .string nm, .slice none 0 0] 26) := ⟨_, rfl⟩
  obtain ⟨pb, hpb⟩ : ∃ pb, pb = w2.heap.size := ⟨_, rfl⟩
  rw [← hW2, ← hpb] at hpb3
  rw [← hW2] at B2 Pb D2a k2 ⊢
  rw [← hpb] at Pb ⊢
  have hpb2 : w.heap.size + 1 ≤ pb := by omega
  have hV0 : VzL 27 w g fc l pb n nm 0 W2 := ⟨[], [], none, 0, B2, Pb, rfl, Acc.nil _ _ _, Fresh.nil _ _, ⟨by simp [Value.ownBlock], by simp⟩, by simp, D2a, k2⟩
  have Hnm := Lib.hid hnm
  have hns4 : nm.size ≤ 3 := by omega
  have hns1 : 1 ≤ nm.size := by omega
  clear hW2 hpb hnm B1 B2 Pb D1 D2 D2a K2 k1 k2 kal hk1 hk2 hk3 s1 s2 hns r1
  go_loopw [5] (fun c wr => ∃ j : Nat, c = .int .i64 j ∧ j ≤ nm.size ∧ W2.heap.size ≤ wr.heap.size ∧ VzL 27 w g fc l pb n nm j wr)
    (fun c _ => nm.size - (intOf c).toNat)
  case atStart => exact ⟨0, rfl, Nat.zero_le _, Nat.le_refl _, hV0⟩
  case round =>
    obtain ⟨W3, hnew⟩ : ∃ W, W = wr := ⟨_, rfl⟩
    subst hnew
    obtain ⟨j, rfl, hj, hW3, gs, fs, am, cm, B3, P3, hgl, hA, hF, ⟨cv, cf⟩, hyl, D3, k3⟩ := hrel
    clear hV0
    have hp3 : pb < W3.heap.size := Nat.lt_of_lt_of_le hpb3 hW3
    subst hgl
    have hfd : ∀ q ∈ fs.flatten, q ∉ [g] := fun q hq hm => by have := hF.ge q hq; simp at hm; omega
    have hvd : ∀ q, (Value.slice am gs.length cm).ownBlock = some q → q ∉ [g] := fun q hq hm => by have := (hA.ownlt q hq).1; simp at hm; omega
    have Hcv := Lib.hid cv
    have Hcf := Lib.hid cf
    have Hfd := Lib.hid hfd
    have Hvd := Lib.hid hvd
    have HA := Lib.hid hA
    have HF := Lib.hid hF
    have Hyl := Lib.hid hyl
    clear cv cf hfd hvd hA hF hyl
    have x03 := P3.cell 0 rfl; have x13 := P3.cell 1 rfl; have x23 := P3.cell 2 rfl
    by_cases hlt : gs.length < nm.size
    · have hltI : (gs.length : Int) < (nm.size : Int) := by omega
      have hlen : gs.length + 1 ≤ 1073741824 := by omega
      have HcP : Hid (∀ V, Src V g fc l → Calls Try.prog 50 #[.pointer (some ⟨g, 0, none⟩), .int .i64 n] V fun e w' => ∃ v, ∃ p : List Int, ∃ fp, e = .returned v ∧ Rd w' v p fp ∧ Fresh V.heap.size w' fp ∧ p.length = n ∧ Src w' g fc l ∧ Only [g] V w') := Lib.hid (fun V D => (drawPerm_any g fc l n V D (by omega) hl).mono (by rintro e w' ⟨v, p, rfl, a, b, c, d⟩; exact ⟨v, p, _, rfl, a.rd, a.fresh, b.1, c, d⟩))
      have hs3 : w.heap.size + 1 ≤ W3.heap.size := by omega
      go_upto_region 6 with fail
      go_region_law (first
        | (go_simp; go_at_call 50; (with_reducible refine (HcP.out _ (D3.keep (by with_reducible repeat (first | exact Only.refl _ _ | assumption | refine Only.drewN ?_ _ | refine Only.drew ?_ | refine Only.alloc ?_ _ | refine Only.trans ?_ (by assumption))))).mono ?_); rintro en w7 ⟨v7, p7, f7, rfl, r7, F7, l7, D7, K7⟩; obtain ⟨a7, c7, rfl, -⟩ := Rd.ints r7; have Hl7 := Lib.hid l7; clear l7; have B7 := (B3.keep (by with_reducible repeat (first | exact Only.refl _ _ | assumption | refine Only.drewN ?_ _ | refine Only.drew ?_ | refine Only.alloc ?_ _ | refine Only.trans ?_ (by assumption)))).only K7 (by simp; omega); have P7 := (P3.keep (by with_reducible repeat (first | exact Only.refl _ _ | assumption | refine Only.drewN ?_ _ | refine Only.drew ?_ | refine Only.alloc ?_ _ | refine Only.trans ?_ (by assumption)))).only K7 (by simp; omega); have x27 := P7.cell 2 rfl; have p27 := P7.frozen 2; have x27a := (P7.keep ((Only.refl _ _).alloc (.cells #[.slice a7 p7.length c7] 27))).cell 2 rfl; have K67 : Only [g] W3 w7 := Only.trans (by with_reducible repeat (first | exact Only.refl _ _ | assumption | refine Only.drewN ?_ _ | refine Only.drew ?_ | refine Only.alloc ?_ _ | refine Only.trans ?_ (by assumption))) K7; have hA7 := HA.out.only K67 Hfd.out Hvd.out; have hs7 : w.heap.size + 1 ≤ w7.heap.size := Nat.le_trans hs3 K67.size)
        | (refine step_push2w (α := List Int) rfl (.tmp 23) (.tmp 27) 24 rfl (w.heap.size + 1) 27 i0 _ 24 Try.underlying24 hi hz0 hz1 hz2 rfl (by decide) (by decide) w7 (.slice am gs.length cm) gs fs rfl hA7 (by with_reducible repeat (first | exact Only.refl _ _ | assumption | refine Only.drewN ?_ _ | refine Only.drew ?_ | refine Only.alloc ?_ _ | refine Only.trans ?_ (by assumption))) hs7 _ 1 [.slice a7 p7.length c7] p7 f7 rfl (lit_src _ [.slice a7 p7.length c7] _ rfl) (by intro u hu; simp at hu; subst hu; rfl) (Rp.keep r7 (by with_reducible repeat (first | exact Only.refl _ _ | assumption | refine Only.drewN ?_ _ | refine Only.drew ?_ | refine Only.alloc ?_ _ | refine Only.trans ?_ (by assumption)))) ?hap hlen ?_; (case hap => (intro b hb he; have h1 := F7.ge b hb; have h2 := (HA.out.ownlt b he).2; simp at h1; omega)); intro v9 w9 hA9 hO9 hN9; obtain ⟨a9, c9, rfl⟩ := hA9.form; rw [List.length_append, List.length_singleton] at hA9 hN9; have P9 := (P7.keep (by with_reducible repeat (first | exact Only.refl _ _ | assumption | refine Only.drewN ?_ _ | refine Only.drew ?_ | refine Only.alloc ?_ _ | refine Only.trans ?_ (by assumption)))).only hO9 Hcv.out; have B9 := (B7.keep (by with_reducible repeat (first | exact Only.refl _ _ | assumption | refine Only.drewN ?_ _ | refine Only.drew ?_ | refine Only.alloc ?_ _ | refine Only.trans ?_ (by assumption)))).only hO9 (fun hm => by have := (HA.out.ownlt _ (by simpa using hm)).1; omega); have F9 := (push_facts (w := w) (W := W3) (HA.out.low3 (by omega)) (HF.out.mono (by omega)) k3 K67 (F7.mono (by simp)) D7 hg hfc (by with_reducible repeat (first | exact Only.refl _ _ | assumption | refine Only.drewN ?_ _ | refine Only.drew ?_ | refine Only.alloc ?_ _ | refine Only.trans ?_ (by assumption))) hO9).1; have D9 := (D7.keep (by with_reducible repeat (first | exact Only.refl _ _ | assumption | refine Only.drewN ?_ _ | refine Only.drew ?_ | refine Only.alloc ?_ _ | refine Only.trans ?_ (by assumption)))).only hO9 (fun hm => by have := (HA.out.ownlt _ (by simpa using hm)).1; omega) (fun b hb hm => by have h1 := hfc b hb; have := (HA.out.ownlt _ (by simpa using hm)).1; omega); have k9 : Only [g] w w9 := Only.then_ (show Only [g] w _ from Only.trans (k3.trans K67) (by with_reducible repeat (first | exact Only.refl _ _ | assumption | refine Only.drewN ?_ _ | refine Only.drew ?_ | refine Only.alloc ?_ _ | refine Only.trans ?_ (by assumption)))) hO9 (fun b hb hl => by have := (HA.out.ownlt b (by simpa using hb)).1; omega); have x29 := P9.cell 2 rfl; have p29 := P9.frozen 2)
        | fail "no arm")
      all_goals
        go_wp2
        have kst : Only [pb] w9 (w9.setCell ⟨pb, 2, none⟩ (.slice a9 (gs.length + 1) c9)) := (Only.refl _ _).setCell (by simp) _
        have hown : ∀ b, (Value.slice a9 (gs.length + 1) c9).ownBlock = some b → b ≠ pb ∧ b ≠ w.heap.size := fun b hb => by
          rw [hb] at hN9
          rcases hN9 with e | e
          · have h1 := (HA.out.ownlt b e.symm).1
            exact ⟨fun e2 => Hcv.out (by rw [← e2]; simpa using e.symm), by omega⟩
          · injection e with e
            have h2 := K67.size
            simp at e
            exact ⟨by omega, by omega⟩
        have hrows : ∀ b ∈ (fs ++ [f7]).flatten, w.heap.size + 1 ≤ b ∧ b ≠ pb ∧ b ≠ w.heap.size := fun b hb => by
          rw [List.flatten_append] at hb
          rcases List.mem_append.1 hb with hb | hb
          · have h0 := HF.out.ge b hb
            exact ⟨h0, fun e2 => Hcf.out (by rw [← e2]; exact hb), by omega⟩
          · have h1 := F7.ge b (by simpa using hb)
            simp at h1
            exact ⟨by omega, by omega, by omega⟩
        have Pf := P9.set 2 (.slice a9 (gs.length + 1) c9)
        simp only [List.set] at Pf
        have hs9 : W3.heap.size ≤ (w9.setCell ⟨pb, 2, none⟩ (.slice a9 (gs.length + 1) c9)).heap.size := Nat.le_trans (Nat.le_trans K67.size (Nat.le_trans (by simp) hO9.size)) kst.size
        go_roundw
        case rel =>
          refine ⟨gs.length + 1, by go_num, by omega, Nat.le_trans hW3 hs9, gs ++ [p7], fs ++ [f7], a9, c9, B9.only kst (by simp; omega), Pf, by rw [List.length_append, List.length_singleton], hA9.only kst (fun b hb hm => (hrows b hb).2.1 (by simpa using hm)) (fun b hb hm => (hown b hb).1 (by simpa using hm)), (show Fresh (w.heap.size + 1) w9 (fs ++ [f7]).flatten from ⟨F9.nd, fun b hb => (hrows b hb).1, F9.own⟩).only kst (fun b hb hm => (hrows b hb).2.1 (by simpa using hm)), ⟨fun hm => (hown _ (by simpa using hm)).1 rfl, fun hm => (hrows _ hm).2.1 rfl⟩, fun y hy => ?_, D9.only kst (by simp; omega) (fun b hb hm => by have := hfc b hb; simp at hm; omega), k9.then_ kst (fun b hb hl => by simp at hb; omega)⟩
          rcases List.mem_append.1 hy with hy | hy
          · exact Hyl.out y hy
          · rw [List.mem_singleton.1 hy, Hl7.out]
        case measure => simp [intOf]; omega
    · have hje : nm.size ≤ gs.length := by omega
      have hjI : ¬ (gs.length : Int) < (nm.size : Int) := by omega
      have hL4 : gs.length ≤ 3 := by omega
      have hL1 : 0 < gs.length := by omega
      have hvv : ∀ {m : Int} {nm' : ByteArray}, validPz (⟨m, nm', gs⟩ : Puzzle) = true → m ≤ 5 := fun hv => by
        have h1 := pz_len (List.getElem_mem hL1) hv
        rw [Hyl.out _ (List.getElem_mem hL1)] at h1
        omega
      have Gs30 : Hid (∀ y : List Int, y ∈ gs → y.length ≤ 30) := Lib.hid fun y hy => by rw [Hyl.out y hy]; omega
      have hOk : ∀ V, Only [g] W3 V → Rd V (.slice am gs.length cm) gs ((Value.slice am gs.length cm).ownBlock.toList ++ fs.flatten) ∧ Fresh (w.heap.size + 1) V ((Value.slice am gs.length cm).ownBlock.toList ++ fs.flatten) := fun V hV => by
        have hA := HA.out.only hV Hfd.out Hvd.out
        have hF := HF.out.only hV Hfd.out
        exact ⟨hA.rd (by decide), hA.fresh hF⟩
      have HOk := Lib.hid hOk
      have hpbn : ∀ b ∈ (Value.slice am gs.length cm).ownBlock.toList ++ fs.flatten, b ≠ pb := fun b hb e => by
        subst e
        rcases List.mem_append.1 hb with hb | hb
        · exact Hcv.out hb
        · exact Hcf.out hb
      clear hOk
      have y03 := P3.frozen 0; have y13 := P3.frozen 1; have y23 := P3.frozen 2
      have g03 := B3.cell 0 rfl; have g13 := B3.cell 1 rfl; have g23 := B3.cell 2 rfl; have q03 := B3.frozen 0; have q13 := B3.frozen 1; have q23 := B3.frozen 2
      go_wp2_with (first
        | (go_at_call 22; (with_reducible refine (oneIn_any g fc l 12 W3 D3 hl (by omega)).mono ?_); rintro e w5 ⟨b5, rfl, D5, K5⟩; have B5 := B3.only K5 (by simp; omega); have P5 := P3.only K5 (by simp; omega); have x05 := P5.cell 0 rfl; have x15 := P5.cell 1 rfl; have x25 := P5.cell 2 rfl; have p05 := P5.frozen 0; have p15 := P5.frozen 1; have p25 := P5.frozen 2; have g05 := B5.cell 0 rfl; have g15 := B5.cell 1 rfl; have g25 := B5.cell 2 rfl; have q05 := B5.frozen 0; have q15 := B5.frozen 1; have q25 := B5.frozen 2)
        | (go_at_call 23; (with_reducible refine (srcBelow_any g fc l 3 w5 D5 hl (by omega)).mono ?_); rintro e w6 ⟨r, rfl, r0, r1, D6, K6⟩; have B6 := B5.only K6 (by simp; omega); have P6 := P5.only K6 (by simp; omega); have x06 := P6.cell 0 rfl; have x16 := P6.cell 1 rfl; have x26 := P6.cell 2 rfl; have p06 := P6.frozen 0; have p16 := P6.frozen 1; have p26 := P6.frozen 2; have g06 := B6.cell 0 rfl; have g16 := B6.cell 1 rfl; have g26 := B6.cell 2 rfl; have q06 := B6.frozen 0; have q16 := B6.frozen 1; have q26 := B6.frozen 2)
        | (go_at_call 51; (with_reducible refine (numberUpTo_any g fc l 20 w6 D6 hl (by unfold I64; omega)).mono ?_); rintro e w7 ⟨y7, rfl, hy7, D7, K7⟩; have B7 := B6.only K7 (by simp; omega); have P7 := P6.only K7 (by simp; omega); have x07 := P7.cell 0 rfl; have x17 := P7.cell 1 rfl; have x27 := P7.cell 2 rfl; have p07 := P7.frozen 0; have p17 := P7.frozen 1; have p27 := P7.frozen 2; have g07 := B7.cell 0 rfl; have g17 := B7.cell 1 rfl; have g27 := B7.cell 2 rfl; have q07 := B7.frozen 0; have q17 := B7.frozen 1; have q27 := B7.frozen 2; have Hy7 := Lib.hid hy7; clear hy7)
        | fail "no arm")
      · have K47 := K5.trans (K6.trans K7)
        obtain ⟨hR, hF⟩ := HOk.out w7 K47
        have kst : Only [pb] w7 (w7.setCell ⟨pb, 0, none⟩ (.int .i64 y7)) := (Only.refl _ _).setCell (by simp) _
        have hd : ∀ b ∈ (Value.slice am gs.length cm).ownBlock.toList ++ fs.flatten, b ∉ [pb] := fun b hb hm => hpbn b hb (by simpa using hm)
        have Yf := (B7.only kst (by simp; omega)).set3 (.int .i64 y7) (.string nm) (.slice am gs.length cm)
        have r0f := Yf.cell 0 rfl
        have r1f := Yf.cell 1 rfl
        have r2f := Yf.cell 2 rfl
        exact bodyPost_ret (v := .agg #[.int .i64 y7, .string nm, .slice am gs.length cm]) (by simp [results, Try.results31, go_sem, r0f, r1f, r2f]) rfl (pzv_fin hg hfc Hy7.out (by omega) (Rp.only hR kst hd) hF.ge (by omega) Gs30.out hvv (D7.only kst (by simp; omega) (fun b hb hm => by have := hfc b hb; simp at hm; omega)) ((k3.trans K47).then_ kst (fun b hb hl => by simp at hb; omega)))
      · have K46 := K5.trans K6
        obtain ⟨hR, hF⟩ := HOk.out w6 K46
        have kst : Only [pb] w6 (w6.setCell ⟨pb, 1, none⟩ (.string ⟨#[65, 65]⟩)) := (Only.refl _ _).setCell (by simp) _
        have hd : ∀ b ∈ (Value.slice am gs.length cm).ownBlock.toList ++ fs.flatten, b ∉ [pb] := fun b hb hm => hpbn b hb (by simpa using hm)
        have Yf := (B6.only kst (by simp; omega)).set3 (.int .i64 n) (.string ⟨#[65, 65]⟩) (.slice am gs.length cm)
        have r0f := Yf.cell 0 rfl
        have r1f := Yf.cell 1 rfl
        have r2f := Yf.cell 2 rfl
        exact bodyPost_ret (v := .agg #[.int .i64 n, .string ⟨#[65, 65]⟩, .slice am gs.length cm]) (by simp [results, Try.results31, go_sem, r0f, r1f, r2f]) rfl (pzv_fin hg hfc (by unfold I64; omega) (by decide) (Rp.only hR kst hd) hF.ge (by omega) Gs30.out hvv (D6.only kst (by simp; omega) (fun b hb hm => by have := hfc b hb; simp at hm; omega)) ((k3.trans K46).then_ kst (fun b hb hl => by simp at hb; omega)))
      · obtain ⟨gb, cb9, u0, f0, ev, hc0, hz0', hu0, hf0, hgb, hgl0⟩ := HA.out.cellRow hL1
        injection ev with e1 _ e3
        subst e1
        subst e3
        have K46 := K5.trans K6
        have hn1 : pb ≠ gb := fun e => Hcv.out (by rw [e]; simp [Value.ownBlock])
        have hn1' : gb ≠ pb := Ne.symm hn1
        have hn2 : w.heap.size ≠ gb := by omega
        have hn2' : gb ≠ w.heap.size := by omega
        have hggb : gb ≠ g := fun e => by subst e; exact Hvd.out _ rfl (by simp)
        have c06 := K46.cell (p := ⟨gb, 0, none⟩) (by simpa using hggb) hc0
        have z06 := frozen_keep hz0' K46 hgl0 (by simpa using hggb)
        have hs6 : w.heap.size + 1 ≤ w6.heap.size := by have := K46.size; omega
        have hL1I : (0 : Int) < (gs.length : Int) := by omega
        have HcP : Hid (∀ V, Src V g fc l → Calls Try.prog 52 #[.pointer (some ⟨g, 0, none⟩), .int .i64 n] V fun e w' => ∃ v, ∃ p : List Int, ∃ fp, e = .returned v ∧ Rd w' v p fp ∧ Fresh V.heap.size w' fp ∧ p.length ≤ n + 21 ∧ Src w' g fc l ∧ Only [g] V w') := Lib.hid (fun V D => drawAny_any g fc l n V D hl (by omega))
        clear hc0 hz0' hu0
        go_region_law (first
          | (go_simp; go_at_call 52; (with_reducible refine (HcP.out _ (D6.keep (by with_reducible repeat (first | exact Only.refl _ _ | assumption | refine Only.drewN ?_ _ | refine Only.drew ?_ | refine Only.alloc ?_ _ | refine Only.trans ?_ (by assumption))))).mono ?_); rintro en w7 ⟨v7, p7, f7, rfl, r7, F7, l7, D7, K7⟩; obtain ⟨a7, c7, rfl, -⟩ := Rd.ints r7; have Hl7 := Lib.hid l7; clear l7; have K67 : Only [g] w6 w7 := Only.trans (by with_reducible repeat (first | exact Only.refl _ _ | assumption | refine Only.drewN ?_ _ | refine Only.drew ?_ | refine Only.alloc ?_ _ | refine Only.trans ?_ (by assumption))) K7; have B7 := (B6.keep (by with_reducible repeat (first | exact Only.refl _ _ | assumption | refine Only.drewN ?_ _ | refine Only.drew ?_ | refine Only.alloc ?_ _ | refine Only.trans ?_ (by assumption)))).only K7 (by simp; omega); have P7 := (P6.keep (by with_reducible repeat (first | exact Only.refl _ _ | assumption | refine Only.drewN ?_ _ | refine Only.drew ?_ | refine Only.alloc ?_ _ | refine Only.trans ?_ (by assumption)))).only K7 (by simp; omega); have x07 := P7.cell 0 rfl; have x17 := P7.cell 1 rfl; have x27 := P7.cell 2 rfl; have p07 := P7.frozen 0; have p17 := P7.frozen 1; have p27 := P7.frozen 2; have g07 := B7.cell 0 rfl; have g17 := B7.cell 1 rfl; have g27 := B7.cell 2 rfl; have q07 := B7.frozen 0; have q17 := B7.frozen 1; have q27 := B7.frozen 2; have c07 := K67.cell (p := ⟨gb, 0, none⟩) (by simpa using hggb) c06; have z07 := frozen_keep z06 K67 (Nat.lt_of_lt_of_le hgl0 K46.size) (by simpa using hggb))
          | fail "no arm")
        all_goals
          go_wp2
          have hl7 : ∀ q ∈ f7, W3.heap.size ≤ q := fun q hq => by have h1 := F7.ge q hq; have h2 := K46.size; simp at h1; omega
          obtain ⟨A8, k8⟩ := (HA.out.only (K46.trans K67) Hfd.out Hvd.out).putRow hL1 rfl (u := .slice a7 p7.length c7) (y := p7) (f := f7) r7 (fun hm => by have := hl7 _ hm; omega)
          have kw8 : ∀ b ∈ (Value.slice (some ⟨gb, 0, none⟩) gs.length cm).ownBlock.toList ++ (fs.set 0 f7).flatten, b ≠ pb ∧ w.heap.size + 1 ≤ b := fun b hb => by
            rcases List.mem_append.1 hb with hb | hb
            · exact ⟨hpbn b (List.mem_append_left _ hb), by have := (HA.out.ownlt b (by simpa using hb)).1; omega⟩
            · rcases mem_flat_set hb with hb | hb
              · have := hl7 b hb; exact ⟨by omega, by omega⟩
              · exact ⟨hpbn b (List.mem_append_right _ hb), HF.out.ge b hb⟩
          have hnd : ∀ b ∈ (Value.slice (some ⟨gb, 0, none⟩) gs.length cm).ownBlock.toList ++ (fs.set 0 f7).flatten, b ∉ [pb] := fun b hb hm => (kw8 b hb).1 (by simpa using hm)
          have B8 := B7.only k8 (by simpa using hn2)
          have Yf := B8.set3 (.int .i64 n) (.string nm) (.slice (some ⟨gb, 0, none⟩) gs.length cm)
          have r0f := Yf.cell 0 rfl
          have r1f := Yf.cell 1 rfl
          have r2f := Yf.cell 2 rfl
          have hl0 : (gs.set 0 p7).length = gs.length := List.length_set
          have hR8 := A8.rd (by decide)
          exact bodyPost_ret (v := .agg #[.int .i64 n, .string nm, .slice (some ⟨gb, 0, none⟩) gs.length cm]) (by simp [results, Try.results31, go_sem, r0f, r1f, r2f]) rfl (pzv_fin (gs := gs.set 0 p7) hg hfc (by unfold I64; omega) (by omega) hR8 (fun b hb => (kw8 b hb).2) (by rw [hl0]; omega) (fun y hy => by
            rcases List.mem_or_eq_of_mem_set hy with hy | rfl
            · exact Gs30.out y hy
            · have := Hl7.out; omega) (fun _ => by omega) (D7.only k8 (by simp; omega) (fun b hb hm => by have := hfc b hb; simp at hm; omega)) ((k3.trans (K46.trans K67)).then_ k8 (fun b hb hl => by simp at hb; omega)))
      · skip
        obtain ⟨hR, hF⟩ := HOk.out w5 K5
        have Yf := B5.set3 (.int .i64 n) (.string nm) (.slice am gs.length cm)
        have r0f := Yf.cell 0 rfl
        have r1f := Yf.cell 1 rfl
        have r2f := Yf.cell 2 rfl
        exact bodyPost_ret (v := .agg #[.int .i64 n, .string nm, .slice am gs.length cm]) (by simp [results, Try.results31, go_sem, r0f, r1f, r2f]) rfl (pzv_fin hg hfc (by unfold I64; omega) (by omega) hR hF.ge (by omega) Gs30.out hvv D5 (k3.trans K5))
end Go.Proofs.Ytpkplmnpepkdaaa

namespace Go.Proofs.Ytpkplmnpepkdaaa
open Go.RowKit
set_option maxRecDepth 10000

structure FillJob where
  table : Table
  next : Int
  log : ByteArray
  synced : Int

instance : Rp FillJob where
  size := 6
  rep w cs x fp := ∃ c0, cs = c0 ++ [Value.int .i64 x.next] ++ [Value.string x.log] ++ [Value.int .i64 x.synced] ∧ I64 x.next ∧ x.log.size ≤ maxLen ∧ I64 x.synced ∧ Rp.rep w c0 x.table fp
  len h := by
    obtain ⟨c0, rfl, p1, p2, p3, h0⟩ := h
    simp [Rp.len h0, Rp.size]
  frame h hf := by
    obtain ⟨c0, hcs, p1, p2, p3, h0⟩ := h
    exact ⟨c0, hcs, p1, p2, p3, Rp.frame h0 fun b hb => hf b (by simp [hb])⟩
  lt h := by
    obtain ⟨c0, hcs, p1, p2, p3, h0⟩ := h
    intro b hb
    exact Rp.lt h0 b hb

end Go.Proofs.Ytpkplmnpepkdaaa


namespace Go.Proofs.Ytpkplmnpepkdaaa
open Go.RowKit
set_option maxRecDepth 10000

/-- the bytes of a number, the upper ones first -/
def nbL (n : Int) (k : Nat) : List Int := (List.range k).map fun i => n / 2 ^ (8 * (k - 1 - i))
def nbB (n : Int) (k : Nat) : ByteArray := kB (nbL n k)
theorem nbL_len (n : Int) (k : Nat) : (nbL n k).length = k := by simp [nbL]
theorem and255n {x : Int} (h0 : 0 ≤ x) (h1 : x < 4294967296) : bits BinOp.and IntKind.i64 x 255 = x % 256 := by
  obtain ⟨m, rfl⟩ := Int.eq_ofNat_of_zero_le h0
  have h1' : (BitVec.ofInt 64 (m : Int)).toNat = m := by
    rw [BitVec.ofInt_natCast, BitVec.toNat_ofNat]; exact Nat.mod_eq_of_lt (by omega)
  show IntKind.i64.wrap ((BitVec.ofInt 64 (m : Int) &&& BitVec.ofInt 64 255).toNat : Int) = _
  rw [BitVec.toNat_and, h1', show (BitVec.ofInt 64 255).toNat = 2 ^ 8 - 1 by decide, Nat.and_two_pow_sub_one_eq_mod]
  rw [IntKind.wrap_i64]
  omega
theorem nbL4 (n : Int) : (nbL n 4).map (fun x => x % 256) = [n / 16777216 % 256, n / 65536 % 256, n / 256 % 256, n % 256] := by
  simp [nbL, List.range_succ]
set_option maxHeartbeats 1000000 in
theorem l29Uint32_any (n : Int) (w : World) (h0 : 0 ≤ n) (h1 : n < 4294967296) :
    Calls Try.prog 75 #[.int .i64 n] w fun e w' => e = .returned (.string (nbB n 4)) ∧ Only [] w w' := by
  have e1 := and255n (x := n / 16777216) (by omega) (by omega)
  have e2 := and255n (x := n / 65536) (by omega) (by omega)
  have e3 := and255n (x := n / 256) (by omega) (by omega)
  have e4 := and255n (x := n) (by omega) (by omega)
  have hcv := run_convert_bytes_arg (P := Try.prog) (w.alloc (.cells #[.int .u8 (n / 16777216 % 256), .int .u8 (n / 65536 % 256), .int .u8 (n / 256 % 256), .int .u8 (n % 256)] 5)) 22 5 Try.underlying22 Try.underlying5 w.heap.size 0 4 4 ((nbL n 4).map fun x => x % 256) (by simp [nbL]) (fun i hi => by
    rw [nbL4]
    match i, hi with
    | 0, _ => simp
    | 1, _ => simp
    | 2, _ => simp
    | 3, _ => simp) 9 Try.underlying9
  have hKB : strOfNums ((nbL n 4).map fun x => x % 256) = nbB n 4 := rfl
  rw [hKB] at hcv
  clear hKB
  go_enter Try.func75, Try.ntmps75
  go_wp2
  go_ret
  exact ⟨rfl, (by with_reducible repeat (first | exact Only.refl _ _ | assumption | refine Only.drewN ?_ _ | refine Only.drew ?_ | refine Only.alloc ?_ _ | refine Only.setCell ?_ (by intro hh; exfalso; simp at hh; try omega) _ | refine Only.trans ?_ (by assumption)))⟩
end Go.Proofs.Ytpkplmnpepkdaaa
