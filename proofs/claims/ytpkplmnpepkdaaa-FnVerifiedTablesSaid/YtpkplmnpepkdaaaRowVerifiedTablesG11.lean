/- A slice of bytes that a loop appends to; it turned to a string. The record of an expansion: the reference's. Fill jobs in plain words: an expansion, the job after some expansions, a valid job. Fill jobs, the reference: copies, the start, comparison. (Printed by mkfillspec.py.) The reference's LowerBound (laws 40, 42, 43, 52). The reference's depth-first search with a limit (law 52). Fill jobs, the reference: a copy of a job whose slices are the call's own. (Printed by mkfillspec3.py.) A family of memory parts of a call's own: all apart from each other; what a write to one of them leaves of the others. The program's search of all states: its memory under way (laws 20, 38). (Printed by mkxe.py.) The memory of an expansion under way: the copy's box, its patterns and distances, what is added. Fill jobs, the reference: an expansion (under way). Fill jobs, the reference: one step. (Printed by mkfillspec5.py.) Fill jobs, the reference: SyncFill. (Printed by mkfillspec7.py.) Fill jobs in plain words: the chain of jobs, some steps one after the other. -/
import Derived.Test.YtpkplmnpepkdaaaRowVerifiedTablesG10
import Derived.Test.YtpkplmnpepkdaaaRowVerifiedTablesG6
import Derived.Test.YtpkplmnpepkdaaaRowVerifiedTablesG7
import Derived.Test.YtpkplmnpepkdaaaRowVerifiedTablesG5
import Derived.Test.YtpkplmnpepkdaaaRowVerifiedTablesG2
import Derived.Test.YtpkplmnpepkdaaaRowVerifiedTablesG3
import Derived.Deep.RegionHeld3
import Derived.Test.YtpkplmnpepkdaaaRowVerifiedTablesG1
import Derived.Deep.DeepCutAuto
import Derived.StillTailTactics
import Derived.Deep.RegionLaw
import Derived.Test.YtpkplmnpepkdaaaRowVerifiedTablesG8
namespace Go.Proofs.Ytpkplmnpepkdaaa
open Go.RowKit
set_option maxRecDepth 10000

/-- v is a slice of bytes of the call's own; the numbers stand for their bytes -/
def AccU (B : Nat) (e : TypeId) (w : World) (v : Value) (l : List Int) : Prop := w.ownsRow B e 1 v l.length (l.map fun x => Value.int .u8 (x % 256))
section
variable {w w' : World} {B : Nat} {e : TypeId} {v : Value} {l : List Int}
theorem AccU.ownlt (h : AccU B e w v l) : ∀ g, v.ownBlock = some g → B ≤ g ∧ g < w.heap.size := World.ownsRow.lt h
theorem AccU.only {fp : List Nat} (h : AccU B e w v l) (ho : Only fp w w') (hv : ∀ g, v.ownBlock = some g → g ∉ fp) : AccU B e w' v l := by
  refine ⟨h.1, ?_⟩
  rcases h.2 with h' | ⟨g', cp, cur, h', hb, hgg, hrest⟩
  · exact .inl h'
  · exact .inr ⟨g', cp, cur, h', hb, by rw [ho.block g' (Array.getElem?_eq_some_iff.1 hgg).1 (hv g' (by rw [h']; rfl))]; exact hgg, hrest⟩
theorem AccU.keep (h : AccU B e w v l) (ho : Only [] w w') : AccU B e w' v l := h.only ho (by simp)
theorem AccU.lit (w : World) (B : Nat) (e : TypeId) (l : List Int) (cs : Array Value) (hc : cs = (l.map fun x => Value.int .u8 (x % 256)).toArray) {g : Nat} (hg : g = w.heap.size) (hB : B ≤ g) (hl : l.length ≤ maxLen) : AccU B e (w.alloc (.cells cs e)) (.slice (some ⟨g, 0, none⟩) l.length l.length) l := by
  subst hg; subst hc
  exact ⟨by simp, .inr ⟨_, _, _, rfl, hB, heap_alloc_new w _, Nat.le_refl _, hl, by simp, by rw [Nat.mul_one, List.take_of_length_le (by simp)]⟩⟩
theorem AccU.cell (h : AccU B e w v l) : ∃ a c, v = .slice a l.length c ∧ (∀ g, v.ownBlock = some g → a = some ⟨g, 0, none⟩) ∧ (v.ownBlock = none → l = []) ∧ ∀ ad, a = some ad → ∃ g, ad = ⟨g, 0, none⟩ ∧ ∀ i, i < l.length → w.cell? ⟨g, i, none⟩ = some (.int .u8 (l.getD i 0 % 256)) := by
  rcases h.2 with ⟨h1, h2⟩ | ⟨g', cp, cur, h', hb, hgg, hrest⟩
  · exact ⟨none, 0, by rw [h1, h2], by rw [h1]; simp [Value.ownBlock], fun _ => List.length_eq_zero_iff.1 h2, by simp⟩
  · refine ⟨_, _, h', by rw [h']; simp [Value.ownBlock], by rw [h']; simp [Value.ownBlock], fun ad hd => ?_⟩
    injection hd with hd
    refine ⟨g', hd.symm, fun i hi => ?_⟩
    have := World.ownsRow.cells h (g := g') (by rw [h']; rfl) i (.int .u8 (l.getD i 0 % 256)) (by
      rw [List.getElem?_map, List.getElem?_eq_getElem hi, List.getD_eq_getElem?_getD, List.getElem?_eq_getElem hi]; rfl)
    have hadd : (⟨g', 0, none⟩ : Addr).add i = ⟨g', i, none⟩ := by unfold Addr.add; split <;> simp_all
    rwa [hadd] at this
end
section
variable {P : Program} {ops : Array Oper} {rest : List Oper} {o : Oper} {a : Act} {w : World} {Q : Exit → Act → World → Prop}
/-- the bytes as a string -/
theorem AccU.str {B : Nat} {e : TypeId} {v : Value} {l : List Int} (h : AccU B e w v l) (src : TypeId) (hs : P.underlying src = some (.slice e)) (he : P.underlying e = some (.int .u8)) (dst : TypeId) (hd : P.underlying dst = some .string) :
    (convert src dst v).run P w = .ok (.string (kB l)) w := by
  obtain ⟨a, c, rfl, h1, h2, h3⟩ := h.cell
  cases a with
  | none =>
    have hl : l = [] := h2 rfl
    subst hl
    exact run_convert_bytes_nil (w := w) src e hs he _ _ dst hd
  | some ad =>
    obtain ⟨g, rfl, hc⟩ := h3 ad rfl
    exact run_convert_bytes_arg (P := P) w src e hs he g 0 l.length c (l.map fun x => x % 256) (by simp) (fun i hi => by
      rw [Nat.zero_add, hc i hi]
      simp [List.getD_eq_getElem?_getD, List.getElem?_map, List.getElem?_eq_getElem hi]) dst hd
theorem wpList_pushU (hgd : o.guard = none) (s x : Operand) (t : TypeId)
    (ho : o.op = .call { callee := .builtin .append, args := #[s, x], argTypes := #[t, t] })
    (B : Nat) (e : TypeId) (i : TypeInfo) (z : Value) (ht : P.underlying t = some (.slice e)) (hi : P.info? e = some i) (hz : i.zero = some z)
    (hsize : i.size = 1) (hby : i.bytes = 1) (hzs : z.cells.size = 1)
    (v : Value) (l : List Int) (hs : a.eval s = v) (hA : AccU B e w v l) (hB : B ≤ w.heap.size)
    (g c : Nat) (n : Int) (hx : a.eval x = .slice (some ⟨g, 0, none⟩) 1 c) (hsrc : w.cell? ⟨g, 0, none⟩ = some (.int .u8 (n % 256))) (hlen : l.length + 1 ≤ 1073741824)
    (h : ∀ v' w', AccU B e w' v' (l ++ [n]) → Only v.ownBlock.toList w w' → (∀ wz, Only [] wz w → wz.heap.size ≤ B → Only [] wz w') → (v'.ownBlock = v.ownBlock ∨ v'.ownBlock = some w.heap.size) → wpList P ops Q rest (a.put o.dst v') w') : wpList P ops Q (o :: rest) a w := by
  refine wpList_app w hgd s x t ho B e i z 1 1 ht hi hz hsize hby hzs (by decide) v l.length _ hs hA (some ⟨g, 0, none⟩) 1 c [.int .u8 (n % 256)] hx rfl ?_ (by simp) (by intro u hu; simp at hu; subst hu; rfl) (by unfold maxLen; omega) (by omega) hB fun v' w' h1 h2 h3 => ?_
  · intro ad hd j u hu
    injection hd with hd; subst hd
    cases j with
    | zero => simp at hu; subst hu; exact hsrc
    | succ j => simp at hu
  · refine h v' w' ?_ ?_ ?_ h3
    · unfold AccU
      rw [List.length_append, List.map_append]
      exact h1
    · exact ((Only.refl _ _).grown h2 (by intro k hk _; simp [hk]))
    · intro wz hz hzB
      exact hz.grown h2 (fun k hk hkl => by have := (hA.ownlt k hk).1; omega)
end
end Go.Proofs.Ytpkplmnpepkdaaa

namespace Go.Proofs.Ytpkplmnpepkdaaa
open Go.RowKit
set_option maxRecDepth 10000

/-- the numbers of a record without its checksum -/
def recL (k : Int) (ps : List (List Int)) : List Int := [k / 256, k % 256, (ps.length : Int)] ++ ps.flatten
def recB (k : Int) (ps : List (List Int)) : ByteArray := kB (recL k ps)
theorem flatten_len {m : Nat} : ∀ {ps : List (List Int)}, (∀ q ∈ ps, q.length ≤ m) → ps.flatten.length ≤ ps.length * m
  | [], _ => by simp
  | q :: ps, h => by
    have h1 := flatten_len (m := m) (ps := ps) fun x hx => h x (List.mem_cons_of_mem _ hx)
    have h2 := h q (by simp)
    simp only [List.flatten_cons, List.length_append, List.length_cons, Nat.add_mul]
    omega
theorem flatten_take_snoc (ps : List (List Int)) (j : Nat) (h : j < ps.length) : (ps.take (j + 1)).flatten = (ps.take j).flatten ++ ps[j] := by
  rw [take_succ_get ps j h, List.flatten_append]; simp

set_option maxHeartbeats 4000000 in
theorem l28Record_any (k : Int) (v : Value) (ps : List (List Int)) (fp : List Nat) (w : World) (h : Rd w v ps fp) (hk0 : 0 ≤ k) (hk1 : k ≤ 1000000) (hps : ps.length ≤ 10000) (hrow : ∀ q ∈ ps, q.length ≤ 100) :
    Calls Try.prog 74 #[.int .i64 k, v] w fun e w' => e = .returned (.string (recB k ps)) ∧ Only [] w w' := by
  obtain ⟨a, cap, ob, fps, rfl, -, hs⟩ := h.open_
  obtain ⟨i0, hi, hz0, hz1, hz2⟩ := info_parts Try.infoByte
  have e1 : Int.tdiv k 256 = k / 256 := Int.tdiv_eq_ediv_of_nonneg hk0
  have e2 : Int.tmod k 256 = k % 256 := tmod_posC hk0
  have A0 : AccU w.heap.size 5 (w.alloc (.cells #[.int .u8 (k / 256 % 256), .int .u8 (k % 256), .int .u8 ((ps.length : Int) % 256)] 5)) (.slice (some ⟨w.heap.size, 0, none⟩) 3 3) ([k / 256, k % 256, (ps.length : Int)] ++ (ps.take 0).flatten) :=
    AccU.lit w w.heap.size 5 [k / 256, k % 256, (ps.length : Int)] _ (by simp) rfl (Nat.le_refl _) (by unfold maxLen; simp)
  have HA0 := Lib.hid A0; clear A0
  have hfin : recB k ps = kB ([k / 256, k % 256, (ps.length : Int)] ++ (ps.take ps.length).flatten) := by rw [List.take_length]; rfl
  have Hfin := Lib.hid hfin; clear hfin
  have Hrow := Lib.hid hrow; clear hrow
  go_enter Try.func74, Try.ntmps74
  go_wp2
  go_loopw [5, 6] (fun o t wr => ∃ i : Nat, i ≤ ps.length ∧ t = .int .i64 i ∧ AccU w.heap.size 5 wr o ([k / 256, k % 256, (ps.length : Int)] ++ (ps.take i).flatten) ∧ Only [] w wr)
    (fun _ t _ => ps.length - (intOf t).toNat)
  case atStart => exact ⟨0, Nat.zero_le _, rfl, HA0.out, (Only.refl _ _).alloc _⟩
  case round =>
    obtain ⟨i, hi', rfl, hA, hK⟩ := hrel
    by_cases hlt : i < ps.length
    · obtain ⟨b, off, u, rfl, -, hc, hu⟩ := hs.atRow i hlt
      obtain ⟨a2, c2, rfl, I2⟩ := hu.ints
      have hc' := hK.cell (by simp) hc
      have hql : ps[i].length ≤ 100 := Hrow.out _ (List.getElem_mem hlt)
      have hfl : (ps.take i).flatten.length ≤ 1000000 := by
        have := flatten_len (m := 100) (ps := ps.take i) fun q hq => Hrow.out q (List.mem_of_mem_take hq)
        have h2 := List.length_take_le i ps
        omega
      have hst := flatten_take_snoc ps i hlt
      have Hst := Lib.hid hst; clear hst
      generalize hQ : ps[i] = q at *
      clear hu
      go_wp2
      go_loopw [5, 7] (fun o t wr' => ∃ j : Nat, j ≤ q.length ∧ t = .int .i64 j ∧ AccU w.heap.size 5 wr' o ([k / 256, k % 256, (ps.length : Int)] ++ (ps.take i).flatten ++ q.take j) ∧ Only [] w wr')
        (fun _ t _ => q.length - (intOf t).toNat)
      case atStart => exact ⟨0, Nat.zero_le _, rfl, by simpa using hA, hK⟩
      case round =>
        obtain ⟨j, hj, rfl, hA2, hK2⟩ := hrel
        by_cases hlj : j < q.length
        · obtain ⟨b3, off3, rfl, -, hc3⟩ := I2.at_ j hlj
          have hc4 := hK2.cell (by simp) hc3
          have hc5 := hK2.cell (by simp) hc
          have hsz := hK2.size
          have hlen : ([k / 256, k % 256, (ps.length : Int)] ++ (ps.take i).flatten ++ q.take j).length + 1 ≤ 1073741824 := by
            have h2 := List.length_take_le j q
            simp only [List.length_append, List.length_cons, List.length_nil]
            omega
          have hsn : [k / 256, k % 256, (ps.length : Int)] ++ (ps.take i).flatten ++ q.take (j + 1) = [k / 256, k % 256, (ps.length : Int)] ++ (ps.take i).flatten ++ q.take j ++ [q[j]] := by
            rw [take_succ_get q j hlj]; simp only [List.append_assoc]
          have Hsn := Lib.hid hsn; clear hsn
          go_wp2_with (at_builtin; refine wpList_pushU rfl _ _ 22 rfl w.heap.size 5 i0 _ Try.underlying22 hi hz0 hz1 hz2 rfl _ _ (by rfl) (hA2.keep ((Only.refl _ _).alloc (.cells #[.int .u8 (q[j] % 256)] 5))) (by simp; omega) wr.heap.size 1 q[j] rfl (lit1 wr _ _ rfl) hlen ?_; intro v3 w3 hA3 hO3 hP3 hN3)
          have hK3 := hP3 w (hK2.alloc _) (Nat.le_refl _)
          go_roundw
          case rel => exact ⟨j + 1, by omega, by go_num, by rw [Hsn.out]; exact hA3, hK3⟩
          case measure => simp [intOf]; omega
        · have hc5 := hK2.cell (by simp) hc
          have hjl : j = q.length := by omega
          rw [hjl, List.take_length, List.append_assoc, ← Hst.out] at hA2
          clear hjl
          go_wp2
          go_roundw
          case rel => exact ⟨i + 1, by omega, by go_num, hA2, hK2⟩
          case measure => simp [intOf]; omega
    · have hil : i = ps.length := by omega
      rw [hil] at hA
      have hcv := hA.str 22 Try.underlying22 Try.underlying5 9 Try.underlying9
      rw [← Hfin.out] at hcv
      clear hil
      go_wp2
      go_ret
      exact ⟨rfl, hK⟩
end Go.Proofs.Ytpkplmnpepkdaaa

namespace Go.Proofs.Ytpkplmnpepkdaaa
open Go.RowKit
set_option maxRecDepth 10000

/-- the patterns that the letters ls append behind those that are there (ps) and those appended so far -/
def addL (x : Puzzle) (ps : List (List Int)) (q : List Int) : List Int → List (List Int) → List (List Int)
  | [], a => a
  | l :: ls, a => addL x ps q ls (if nxt x q l ∈ ps ++ a then a else a ++ [nxt x q l])
def newF (x : Puzzle) (j : FillJob) : List (List Int) := addL x j.table.patterns (j.table.patterns.getD j.next.toNat []) (ltrs x.moves.length) []
def recF (k : Int) (a : List (List Int)) : ByteArray := recB k a ++ nbB (csum (recB k a)) 4
/-- the next entry is expanded -/
def expandF (x : Puzzle) (j : FillJob) : FillJob :=
  ⟨⟨j.table.tracked, j.table.patterns ++ newF x j, j.table.distances ++ List.replicate (newF x j).length (j.table.distances.getD j.next.toNat 0 + 1)⟩, j.next + 1, j.log ++ recF j.next (newF x j), j.synced⟩
def startF (tr : List Int) : FillJob := ⟨⟨tr, [tr], [0]⟩, 0, ByteArray.empty, 0⟩
/-- the job after n expansions -/
def atF (x : Puzzle) (tr : List Int) : Nat → FillJob
  | 0 => startF tr
  | n + 1 => expandF x (atF x tr n)
/-- n expansions are possible -/
def okF (x : Puzzle) (tr : List Int) (n : Nat) : Prop := ∀ m, m < n → m < (atF x tr m).table.patterns.length
theorem addL_pre (x : Puzzle) (ps : List (List Int)) (q : List Int) : ∀ (ls : List Int) (a : List (List Int)), a.length ≤ (addL x ps q ls a).length ∧ (addL x ps q ls a).length ≤ a.length + ls.length
  | [], a => by simp [addL]
  | l :: ls, a => by
    unfold addL
    have h := addL_pre x ps q ls (if nxt x q l ∈ ps ++ a then a else a ++ [nxt x q l])
    split at h <;> split <;> simp_all <;> omega
theorem addL_pat {x : Puzzle} {ps : List (List Int)} {q : List Int} {k : Nat} (hv : validPz x = true) (hq : patB x.points k q = true) : ∀ (ls : List Int) (a : List (List Int)), (∀ l ∈ ls, l ∈ ltrs x.moves.length) → (∀ p ∈ a, patB x.points k p = true) → ∀ p ∈ addL x ps q ls a, patB x.points k p = true
  | [], a, _, ha => ha
  | l :: ls, a, hl, ha => by
    unfold addL
    refine addL_pat hv hq ls _ (fun y hy => hl y (List.mem_cons_of_mem _ hy)) fun p hp => ?_
    split at hp
    · exact ha p hp
    · rcases List.mem_append.1 hp with hp | hp
      · exact ha p hp
      · simp at hp; subst hp; exact nxt_pat hv hq (hl l (by simp))
/-- the search meets what an expansion appends -/
theorem bLets_add {x : Puzzle} {q : List Int} {d : Int} {ps : List (List Int)} {ds : List Int} : ∀ {ls : List Int} {a : List (List Int)} {s' : Met16}, bLets x q d ls (ps ++ a, ds ++ List.replicate a.length d) = some s' → s' = (ps ++ addL x ps q ls a, ds ++ List.replicate (addL x ps q ls a).length d)
  | [], a, s', h => by unfold bLets at h; injection h with h; rw [← h]; rfl
  | l :: ls, a, s', h => by
    unfold addL
    by_cases hm : nxt x q l ∈ ps ++ a
    · rw [bLets_old hm] at h
      rw [if_pos hm]
      exact bLets_add h
    · by_cases hf : (ps ++ a).length = 3000
      · rw [bLets_full hm hf] at h; cases h
      · rw [bLets_new hm hf, List.append_assoc, List.append_assoc] at h
        rw [if_neg hm]
        refine bLets_add (a := a ++ [nxt x q l]) ?_
        rw [← h]
        simp [List.replicate_succ']
/-- what holds of the job after n expansions -/
structure GF (x : Puzzle) (tr : List Int) (n : Nat) (j : FillJob) : Prop where
  tk : j.table.tracked = tr
  nx : j.next = n
  ln : j.table.distances.length = j.table.patterns.length
  le : j.table.patterns.length ≤ 3000
  ps : ∀ q ∈ j.table.patterns, patB x.points tr.length q = true
  ds : ∀ d ∈ j.table.distances, 0 ≤ d ∧ d ≤ n
  lg : j.log.size ≤ 400 * n
  sy : j.synced = 0
theorem recF_size (k : Int) (a : List (List Int)) : (recF k a).size = 7 + a.flatten.length := by
  unfold recF nbB recB recL
  rw [ByteArray.size_append, kB_size, kB_size, nbL_len]
  simp only [List.length_append, List.length_cons, List.length_nil]
  omega
theorem atF_good {x : Puzzle} {tr : List Int} (hb : (bTab x tr).isSome = true) : ∀ n, okF x tr n → GF x tr n (atF x tr n) ∧ n ≤ 3000 ∧ ∃ s', bFrom x (3001 - n) n ((atF x tr n).table.patterns, (atF x tr n).table.distances) = some s' := by
  obtain ⟨t, ht⟩ := Option.isSome_iff_exists.1 hb
  obtain ⟨hv, htr, -, hbf, -⟩ := bTab_facts ht
  have hf := validPz_facts hv
  have hp := trackB_pat htr
  have hk : tr.length ≤ 20 := by
    have := (trackB_iff.1 htr).2.len
    have := hf.2.1
    omega
  rw [bfs16_yes (by rw [hv, htr]; rfl)] at hbf
  intro n
  induction n with
  | zero =>
    intro _
    refine ⟨⟨rfl, rfl, rfl, by simp [atF, startF], ?_, ?_, by simp [atF, startF], rfl⟩, by omega, _, hbf⟩
    · intro q hq; simp [atF, startF] at hq; subst hq; exact hp
    · intro d hd; simp [atF, startF] at hd; subst hd; omega
  | succ n ih =>
    intro hok
    obtain ⟨hg, hn, s', hs⟩ := ih fun m hm => hok m (by omega)
    have hlt := hok n (by omega)
    have h3 : n < 3000 := Nat.lt_of_lt_of_le hlt hg.le
    have hnt : (atF x tr n).next.toNat = n := by rw [hg.nx]; omega
    rw [show 3001 - n = (3001 - (n + 1)) + 1 by omega] at hs
    unfold bFrom at hs
    rw [if_pos hlt, Option.bind_eq_some_iff] at hs
    obtain ⟨s1, e1, e2⟩ := hs
    have hq : patB x.points tr.length ((atF x tr n).table.patterns.getD n []) = true := by
      rw [getD_get hlt]; exact hg.ps _ (List.getElem_mem hlt)
    have ha := bLets_add (a := []) (ps := (atF x tr n).table.patterns) (ds := (atF x tr n).table.distances) (d := (atF x tr n).table.distances.getD n 0 + 1) (q := (atF x tr n).table.patterns.getD n []) (ls := ltrs x.moves.length) (s' := s1) (by rw [List.append_nil, List.length_nil, List.replicate_zero, List.append_nil]; exact e1)
    have hl := bLets_len e1 hg.ln.symm hg.le
    have hnew : addL x (atF x tr n).table.patterns ((atF x tr n).table.patterns.getD n []) (ltrs x.moves.length) [] = newF x (atF x tr n) := by unfold newF; rw [hnt]
    rw [hnew] at ha
    have e3 : ((atF x tr (n + 1)).table.patterns, (atF x tr (n + 1)).table.distances) = s1 := by
      rw [ha]
      show ((expandF x (atF x tr n)).table.patterns, (expandF x (atF x tr n)).table.distances) = _
      unfold expandF
      rw [hnt]
    have hlen := addL_pre x (atF x tr n).table.patterns ((atF x tr n).table.patterns.getD n []) (ltrs x.moves.length) []
    rw [hnew, ltrs_len] at hlen
    have hap := addL_pat (ps := (atF x tr n).table.patterns) hv hq (ltrs x.moves.length) [] (fun l h => h) (by simp)
    rw [hnew] at hap
    refine ⟨⟨hg.tk, ?_, ?_, ?_, ?_, ?_, ?_, hg.sy⟩, by omega, s', ?_⟩
    · show (atF x tr n).next + 1 = _
      rw [hg.nx]; omega
    · have := congrArg (fun s : Met16 => s.2.length = s.1.length) e3
      exact this.mpr hl.1.symm
    · have := congrArg (fun s : Met16 => s.1.length ≤ 3000) e3
      exact this.mpr hl.2.1
    · intro q hq'
      rcases List.mem_append.1 (show q ∈ (atF x tr n).table.patterns ++ newF x (atF x tr n) from hq') with h | h
      · exact hg.ps q h
      · exact hap q h
    · intro d hd
      rcases List.mem_append.1 (show d ∈ (atF x tr n).table.distances ++ List.replicate _ _ from hd) with h | h
      · have := hg.ds d h; omega
      · have h := (List.mem_replicate.1 h).2
        rw [hnt, getD_get (by rw [hg.ln]; exact hlt)] at h
        have hdl : n < (atF x tr n).table.distances.length := by rw [hg.ln]; exact hlt
        have := hg.ds _ (List.getElem_mem hdl)
        omega
    · show ((atF x tr n).log ++ recF _ _).size ≤ _
      rw [ByteArray.size_append, recF_size]
      have h1 := flatten_len (m := 20) (ps := newF x (atF x tr n)) fun q hq => by have := (patB_iff.1 (hap q hq)).1; omega
      have h2 := hg.lg
      have := hf.2.2.1
      have h3 : (newF x (atF x tr n)).length ≤ 2 * x.moves.length := by have := hlen.2; simpa using this
      omega
    · rw [e3]; exact e2
end Go.Proofs.Ytpkplmnpepkdaaa

namespace Go.Proofs.Ytpkplmnpepkdaaa
open Go.RowKit
set_option maxRecDepth 10000
/-- a table of moderate size -/
def midT (t : Table) : Prop := t.tracked.length ≤ 2097152 ∧ t.patterns.length ≤ 2097152 ∧ (∀ y ∈ t.patterns, y.length ≤ 2097152) ∧ t.distances.length ≤ 2097152

end Go.Proofs.Ytpkplmnpepkdaaa

namespace Go.Proofs.Ytpkplmnpepkdaaa
open Go.RowKit
set_option maxRecDepth 10000

set_option maxHeartbeats 1000000 in
theorem tableEntry_any (ds : List Value) (t : Table) (f2 : List Nat) (v : Value) (p : List Int) (f3 : List Nat) (w : World) (h : Rp.rep w ds t f2) (h2 : Rd w v p f3) :
    Calls Try.prog 20 #[.agg ds.toArray, v] w fun e w' => e = .returned (.int .i64 (idxL t.patterns p)) ∧ Only [] w w' := by
  obtain ⟨u0, u1, u2, q0, q1, q2, rfl, rfl, r0, r1, r2⟩ := h
  obtain ⟨A1, C1, ob, fps, rfl, -, hS⟩ := r1.open_
  have hb := hS.bound
  have X0 := Blk.new w [u0, .slice A1 t.patterns.length C1, u2] 29
  simp only [List.toArray] at X0
  go_enter Try.func20, Try.ntmps20
  go_wp2
  go_loopw [5] (fun i wr => ∃ j : Nat, j ≤ t.patterns.length ∧ i = .int .i64 j ∧ (∀ q ∈ t.patterns.take j, decide (q = p) = false) ∧ Only [] (w.alloc (.cells #[u0, .slice A1 t.patterns.length C1, u2] 29)) wr)
    (fun i _ => t.patterns.length - (intOf i).toNat)
  case atStart => exact ⟨0, Nat.zero_le _, rfl, by simp, Only.refl _ _⟩
  case round =>
    obtain ⟨W2, hnew⟩ : ∃ W, W = wr := ⟨_, rfl⟩
    subst hnew
    obtain ⟨j, hj, rfl, hr, hK⟩ := hrel
    have Hr := Lib.hid hr
    clear hr
    have y1 := (X0.keep hK).cell 1 rfl
    have KK := ((Only.refl [] w).alloc (.cells #[u0, .slice A1 t.patterns.length C1, u2] 29)).trans hK
    by_cases hlt : j < t.patterns.length
    · obtain ⟨b, off, u, rfl, -, hc0, hu0⟩ := hS.atRow j hlt
      have hc := KK.cell (by simp) hc0
      have hu := Rp.keep hu0 KK
      have h2' := Rp.keep h2 KK
      clear hc0 hu0
      rcases hq : eqV t.patterns[j] p
      all_goals go_wp2_with ((go_at_call 30; (with_reducible refine (equalInts_rd u v t.patterns[j] p _ _ _ (Rp.keep hu (by with_reducible repeat (first | exact Only.refl _ _ | assumption | refine Only.drewN ?_ _ | refine Only.drew ?_ | refine Only.alloc ?_ _ | refine Only.setCell ?_ (by intro hh; exfalso; simp at hh; try omega) _ | refine Only.trans ?_ (by assumption)))) (Rp.keep h2' (by with_reducible repeat (first | exact Only.refl _ _ | assumption | refine Only.drewN ?_ _ | refine Only.drew ?_ | refine Only.alloc ?_ _ | refine Only.setCell ?_ (by intro hh; exfalso; simp at hh; try omega) _ | refine Only.trans ?_ (by assumption))))).mono ?_); rintro e w3 ⟨he, k3⟩; rw [hq] at he; subst he; have t3 := Drew.only k3 []))
      · go_roundw
        case rel => exact ⟨j + 1, by omega, by go_num, by
          rw [take_succ_get _ j hlt]; intro q hq2
          rcases List.mem_append.1 hq2 with hq2 | hq2
          · exact Hr.out q hq2
          · simp at hq2; subst hq2; exact decide_eq_false (eqV_iff'.1 hq), hK.trans t3⟩
        case measure => simp [intOf]; omega
      · go_ret
        exact ⟨ret_int (idxF_some hlt Hr.out (decide_eq_true (eqV_iff.1 hq))).symm, KK.trans t3⟩
    · go_wp2
      go_ret
      exact ⟨ret_int (idxF_none (by have := Hr.out; rwa [List.take_of_length_le (by omega)] at this)).symm, KK⟩

end Go.Proofs.Ytpkplmnpepkdaaa

namespace Go.Proofs.Ytpkplmnpepkdaaa
open Go.RowKit
set_option maxRecDepth 10000
theorem flat_one {α β : Type} (f : α → β) : ∀ (l : List α), (l.map fun x => [f x]).flatten = l.map f
  | [] => rfl
  | a :: l => by rw [List.map_cons, List.flatten_cons, flat_one f l]; rfl
theorem own_acc {w : World} {B : Nat} {e : TypeId} {v : Value} {l : List Int} (h : w.ownsRow B e 1 v l.length (l.map (Value.int .i64))) (hl : ∀ x ∈ l, I64 x) : Acc B e w v l (List.replicate l.length []) := by
  refine ⟨⟨l.map fun x => [Value.int .i64 x], by rw [flat_one]; exact h, by simp, fun k h1 h2 h3 => ?_⟩, by simp, fun g _ => by rw [flatten_nil]; simp⟩
  simp only [List.getElem_map, List.getElem_replicate]
  exact ⟨rfl, hl _ (List.getElem_mem h2), rfl⟩
set_option maxHeartbeats 400000 in
theorem copyInts_acc (v : Value) (l : List Int) (fp : List Nat) (w : World) (h : Rd w v l fp) (hl : l.length ≤ 1073741824) :
    Calls Try.prog 15 #[v] w fun e w' => ∃ v fs, e = .returned v ∧ Acc w.heap.size 2 w' v l fs ∧ fs.flatten = [] ∧ Only [] w w' := by
  obtain ⟨a, cap, rfl, hI⟩ := h.ints
  obtain ⟨i0, hi, hz0, hz1, hz2⟩ := info_parts Try.info2
  obtain ⟨q1, q2⟩ := ints_src (hI.keep ((Only.refl _ w).alloc (.cells #[] 2)))
  go_enter Try.func15, Try.ntmps15
  go_wp2_with (at_builtin; refine wpList_app _ rfl _ _ 27 rfl w.heap.size 2 i0 _ 1 8 Try.underlying27 hi hz0 hz1 hz2 rfl (by omega) (.slice (some ⟨w.heap.size, 0, none⟩) 0 0) 0 [] rfl (World.ownsRow_made w #[] 0 (Nat.le_refl _) (by unfold maxLen; omega) rfl) a l.length cap (l.map (Value.int .i64)) rfl (by simp) q1 q2 (ints_one l) (by unfold maxLen; omega) (by omega) (by simp) ?_; intro v1 w1 hO hg hb)
  rw [Nat.zero_add, List.nil_append] at hO
  have hK : Only [] w w1 := ((Only.refl _ _).alloc _).grown hg (by simp [Value.ownBlock])
  have hA : Acc w.heap.size 2 w1 v1 l (List.replicate l.length []) := own_acc hO hI.wf
  have HA := Lib.hid hA
  clear hO hg hb q1 q2 hA
  go_wp2
  go_ret
  exact ⟨_, _, rfl, HA.out, flatten_nil _, hK⟩

end Go.Proofs.Ytpkplmnpepkdaaa

namespace Go.Proofs.Ytpkplmnpepkdaaa
open Go.RowKit
set_option maxRecDepth 10000

theorem copyLists_accR (v : Value) (l : List (List Int)) (fp : List Nat) (w : World) (h : Rd w v l fp) (hl : l.length ≤ 2097152) (hl2 : ∀ x ∈ l, x.length ≤ 2097152) :
    Calls Try.prog 16 #[v] w fun e w' => ∃ v fs, e = .returned v ∧ Acc w.heap.size 27 w' v l fs ∧ Fresh w.heap.size w' fs.flatten ∧ Only [] w w' := by
  obtain ⟨a, cap, ob, fps, rfl, -, hs⟩ := h.open_
  exact copyLists_acc a cap l ob fps w hs hl hl2
theorem copyInts_accI (v : Value) (l : List Int) (fp : List Nat) (w : World) (h : Rd w v l fp) (hl : l.length ≤ 1073741824) :
    Calls Try.prog 15 #[v] w fun e w' => ∃ v, e = .returned v ∧ AccI w.heap.size 2 w' v l ∧ Only [] w w' := by
  refine (copyInts_acc v l fp w h hl).mono ?_
  rintro e w' ⟨v, fs, he, hA, -, hO⟩
  exact ⟨v, he, ⟨fs, hA⟩, hO⟩
theorem Acc.lower {α : Type} [Rp α] {B B' : Nat} {e : TypeId} {w : World} {v : Value} {l : List α} {fs : List (List Nat)} (h : Acc B e w v l fs) (hB : B' ≤ B) : Acc B' e w v l fs := by
  obtain ⟨⟨css, ho, hcl, hr⟩, hf, ha⟩ := h
  refine ⟨⟨css, ⟨ho.1, ?_⟩, hcl, hr⟩, hf, ha⟩
  rcases ho.2 with h1 | ⟨g, cap, cur, h1, h2, h3⟩
  · exact .inl h1
  · exact .inr ⟨g, cap, cur, h1, Nat.le_trans hB h2, h3⟩
theorem AccI.lower {B B' : Nat} {e : TypeId} {w : World} {v : Value} {l : List Int} (h : AccI B e w v l) (hB : B' ≤ B) : AccI B' e w v l := by
  obtain ⟨fs, h⟩ := h
  exact ⟨fs, h.lower hB⟩
/-- a table whose patterns and distances can be appended to -/
structure TA (B : Nat) (w : World) (v1 v2 v3 : Value) (t : Table) (f1 : List Nat) (fs : List (List Nat)) : Prop where
  tk : Rd w v1 t.tracked f1
  pt : Acc B 27 w v2 t.patterns fs
  dt : AccI B 2 w v3 t.distances
  fr : Fresh B w (f1 ++ ((v2.ownBlock.toList ++ fs.flatten) ++ v3.ownBlock.toList))
theorem TA.only {B : Nat} {w w' : World} {v1 v2 v3 : Value} {t : Table} {f1 fp : List Nat} {fs : List (List Nat)} (h : TA B w v1 v2 v3 t f1 fs) (ho : Only fp w w') (hd : ∀ b ∈ f1 ++ ((v2.ownBlock.toList ++ fs.flatten) ++ v3.ownBlock.toList), b ∉ fp) : TA B w' v1 v2 v3 t f1 fs :=
  ⟨Rp.only h.tk ho fun b hb => hd b (List.mem_append_left _ hb),
   h.pt.only ho (fun b hb => hd b (List.mem_append_right _ (List.mem_append_left _ (List.mem_append_right _ hb)))) (fun g hg => hd g (List.mem_append_right _ (List.mem_append_left _ (List.mem_append_left _ (by simp [hg]))))),
   h.dt.only ho (fun g hg => hd g (List.mem_append_right _ (List.mem_append_right _ (by simp [hg])))),
   h.fr.only ho hd⟩
theorem TA.keep {B : Nat} {w w' : World} {v1 v2 v3 : Value} {t : Table} {f1 : List Nat} {fs : List (List Nat)} (h : TA B w v1 v2 v3 t f1 fs) (ho : Only [] w w') : TA B w' v1 v2 v3 t f1 fs := h.only ho (by simp)
theorem TA.lower {B B' : Nat} {w : World} {v1 v2 v3 : Value} {t : Table} {f1 : List Nat} {fs : List (List Nat)} (h : TA B w v1 v2 v3 t f1 fs) (hB : B' ≤ B) : TA B' w v1 v2 v3 t f1 fs := ⟨h.tk, h.pt.lower hB, h.dt.lower hB, h.fr.mono hB⟩
end Go.Proofs.Ytpkplmnpepkdaaa

namespace Go.Proofs.Ytpkplmnpepkdaaa
open Go.RowKit
set_option maxRecDepth 10000

/-- parts of memory, all from B on, all apart -/
structure Fam (B : Nat) (w : World) (cs : List (List Nat)) : Prop where
  nd : cs.flatten.Nodup
  rng : ∀ c ∈ cs, ∀ b ∈ c, B ≤ b ∧ b < w.heap.size
theorem Fam.keep {B : Nat} {w w' : World} {cs : List (List Nat)} (h : Fam B w cs) (hs : w.heap.size ≤ w'.heap.size) : Fam B w' cs := ⟨h.nd, fun c hc b hb => by have := h.rng c hc b hb; omega⟩
theorem Fam.ge {B : Nat} {w : World} {cs : List (List Nat)} (h : Fam B w cs) (i : Nat) {c : List Nat} (hi : cs[i]? = some c) {b : Nat} (hb : b ∈ c) : B ≤ b := (h.rng c (List.mem_of_getElem? hi) b hb).1
theorem Fam.lt {B : Nat} {w : World} {cs : List (List Nat)} (h : Fam B w cs) (i : Nat) {c : List Nat} (hi : cs[i]? = some c) {b : Nat} (hb : b ∈ c) : b < w.heap.size := (h.rng c (List.mem_of_getElem? hi) b hb).2
theorem flat_disj : ∀ {cs : List (List Nat)}, cs.flatten.Nodup → ∀ {i j : Nat} {c d : List Nat}, i < j → cs[i]? = some c → cs[j]? = some d → ∀ b ∈ c, b ∉ d
  | [], _, i, j, c, d, _, hi, _ => by simp at hi
  | a :: cs, hn, 0, j, c, d, hij, hi, hj => by
    rw [List.flatten_cons, List.nodup_append] at hn
    simp at hi; subst hi
    intro b hb hm
    obtain ⟨k, rfl⟩ : ∃ k, j = k + 1 := ⟨j - 1, by omega⟩
    rw [List.getElem?_cons_succ] at hj
    exact hn.2.2 b hb b (List.mem_flatten.2 ⟨d, List.mem_of_getElem? hj, hm⟩) rfl
  | a :: cs, hn, i + 1, j, c, d, hij, hi, hj => by
    rw [List.flatten_cons, List.nodup_append] at hn
    obtain ⟨k, rfl⟩ : ∃ k, j = k + 1 := ⟨j - 1, by omega⟩
    rw [List.getElem?_cons_succ] at hi hj
    exact flat_disj hn.2.1 (by omega) hi hj
theorem Fam.disj {B : Nat} {w : World} {cs : List (List Nat)} (h : Fam B w cs) (i j : Nat) (hij : i ≠ j) {c d : List Nat} (hi : cs[i]? = some c) (hj : cs[j]? = some d) : ∀ b ∈ c, b ∉ d := by
  intro b hb hm
  rcases Nat.lt_or_gt_of_ne hij with h1 | h1
  · exact flat_disj h.nd h1 hi hj b hb hm
  · exact flat_disj h.nd h1 hj hi b hm hb
theorem flat_set : ∀ {cs : List (List Nat)} {i : Nat} {c : List Nat}, cs.flatten.Nodup → c.Nodup → (∀ b ∈ c, b ∉ (cs.set i []).flatten) → i < cs.length → (cs.set i c).flatten.Nodup
  | [], i, c, _, _, _, hi => by simp at hi
  | a :: cs, 0, c, hn, hc, hd, _ => by
    rw [List.flatten_cons, List.nodup_append] at hn
    rw [List.set_cons_zero, List.flatten_cons, List.nodup_append]
    refine ⟨hc, hn.2.1, fun x hx y hy e => ?_⟩
    subst e
    exact hd x hx (by rw [List.set_cons_zero, List.flatten_cons]; exact List.mem_append_right _ hy)
  | a :: cs, i + 1, c, hn, hc, hd, hi => by
    rw [List.flatten_cons, List.nodup_append] at hn
    rw [List.set_cons_succ, List.flatten_cons, List.nodup_append]
    have hd' : ∀ b ∈ c, b ∉ (cs.set i []).flatten := fun b hb hm => hd b hb (by rw [List.set_cons_succ, List.flatten_cons]; exact List.mem_append_right _ hm)
    refine ⟨hn.1, flat_set hn.2.1 hc hd' (by simpa using hi), fun x hx y hy e => ?_⟩
    subst e
    obtain ⟨d, hdm, hxd⟩ := List.mem_flatten.1 hy
    rcases List.mem_or_eq_of_mem_set hdm with h1 | rfl
    · exact hn.2.2 x hx x (List.mem_flatten.2 ⟨d, h1, hxd⟩) rfl
    · exact hd x hxd (by rw [List.set_cons_succ, List.flatten_cons]; exact List.mem_append_left _ hx)
/-- one part anew: what it was, or new memory -/
theorem Fam.set {B : Nat} {w w' : World} {cs : List (List Nat)} (h : Fam B w cs) (hs : w.heap.size ≤ w'.heap.size) (hB : B ≤ w.heap.size) (i : Nat) {c : List Nat} (hi : cs[i]? = some c) {c' : List Nat} (hn : c'.Nodup) (hc : ∀ b ∈ c', b ∈ c ∨ (w.heap.size ≤ b ∧ b < w'.heap.size)) : Fam B w' (cs.set i c') := by
  have hil : i < cs.length := (List.getElem?_eq_some_iff.1 hi).1
  refine ⟨flat_set h.nd hn (fun b hb hm => ?_) hil, fun d hd b hb => ?_⟩
  · obtain ⟨d, hdm, hbd⟩ := List.mem_flatten.1 hm
    obtain ⟨j, hj⟩ := List.getElem?_of_mem hdm
    have hjl : j < cs.length := by have := (List.getElem?_eq_some_iff.1 hj).1; simpa using this
    by_cases hij : i = j
    · subst hij
      rw [List.getElem?_set_self hil] at hj
      injection hj with hj; subst hj; cases hbd
    · rw [List.getElem?_set_ne hij] at hj
      rcases hc b hb with h1 | h1
      · exact h.disj i j hij hi hj b h1 hbd
      · have := h.lt j hj hbd; omega
  · rcases List.mem_or_eq_of_mem_set hd with h1 | rfl
    · have := h.rng d h1 b hb; omega
    · rcases hc b hb with h1 | h1
      · have := h.rng c (List.mem_of_getElem? hi) b h1; omega
      · omega
end Go.Proofs.Ytpkplmnpepkdaaa

namespace Go.Proofs.Ytpkplmnpepkdaaa
open Go.RowKit
set_option maxRecDepth 10000
theorem ro_set {cs : List (List Nat)} {i b n : Nat} {c c' : List Nat} (h : b < n ∧ ∀ d ∈ cs, b ∉ d) (hi : cs[i]? = some c) (hn : ∀ b ∈ c', b ∈ c ∨ n ≤ b) : ∀ d ∈ cs.set i c', b ∉ d := by
  intro d hd hb
  rcases List.mem_or_eq_of_mem_set hd with h1 | rfl
  · exact h.2 d h1 hb
  · rcases hn b hb with h2 | h2
    · exact h.2 c (List.mem_of_getElem? hi) h2
    · omega
theorem own_nodup (v : Value) : v.ownBlock.toList.Nodup := by cases v.ownBlock <;> simp
section
variable {x : Puzzle} {v2 : Value} {w : World} {g M : Nat} {LM LS : List (List Int)} {D P Y : List Int} {N : List (List Int)} {R : List Int} {wa wb wr w' : World} {us ud up uy un ur : Value} {fs fn : List (List Nat)} {ex : List Nat} {W : World}
end
end Go.Proofs.Ytpkplmnpepkdaaa

namespace Go.Proofs.Ytpkplmnpepkdaaa
open Go.RowKit
set_option maxRecDepth 10000

def xxF (g : Nat) (u2 u3 ua : Value) : List (List Nat) := [[g], u2.ownBlock.toList, u3.ownBlock.toList, ua.ownBlock.toList]
/-- an expansion under way: the box g, the patterns u2, the distances u3, the added ones ua; what is only read is ex -/
structure XX (w : World) (g : Nat) (v1 c4 c5 c6 : Value) (L2 : List (List Int)) (L3 : List Int) (LA : List (List Int)) (wr : World) (u2 u3 ua : Value) (fs fa : List (List Nat)) (ex : List Nat) (W : World) : Prop where
  blk : Blk wr g [v1, u2, u3, c4, c5, c6]
  pt : Acc w.heap.size 27 wr u2 L2 fs
  dt : AccI w.heap.size 2 wr u3 L3
  ad : Acc w.heap.size 27 wr ua LA fa
  fam : Fam w.heap.size wr (xxF g u2 u3 ua)
  ro : ∀ b ∈ fs.flatten ++ fa.flatten ++ ex, b < wr.heap.size ∧ ∀ c ∈ xxF g u2 u3 ua, b ∉ c
  kp : ∀ b ∈ ex, wr.heap[b]? = W.heap[b]?
  fr : Fresh w.heap.size wr fs.flatten
  on : Only [] w wr
section
variable {w : World} {g : Nat} {v1 c4 c5 c6 : Value} {L2 LA : List (List Int)} {L3 : List Int} {wa wb wr w' : World} {u2 u3 ua : Value} {fs fa : List (List Nat)} {ex : List Nat} {W : World}
theorem XX.keep (h : XX w g v1 c4 c5 c6 L2 L3 LA wr u2 u3 ua fs fa ex W) (ho : Only [] wr w') : XX w g v1 c4 c5 c6 L2 L3 LA w' u2 u3 ua fs fa ex W :=
  ⟨h.blk.keep ho, h.pt.keep ho, h.dt.keep ho, h.ad.keep ho, h.fam.keep ho.size, fun b hb => ⟨Nat.lt_of_lt_of_le (h.ro b hb).1 ho.size, (h.ro b hb).2⟩, fun b hb => (ho.block b (h.ro b (List.mem_append_right _ hb)).1 (by simp)).trans (h.kp b hb), h.fr.keep ho, h.on.trans ho⟩
/-- more memory that stays as it is -/
theorem XX.hold (h : XX w g v1 c4 c5 c6 L2 L3 LA wr u2 u3 ua fs fa ex W) (ho : Only [] wr w') {f : List Nat} (hf : ∀ b ∈ f, wr.heap.size ≤ b ∧ b < w'.heap.size) : XX w g v1 c4 c5 c6 L2 L3 LA w' u2 u3 ua fs fa (ex ++ f) w' := by
  have h1 := h.keep ho
  refine ⟨h1.blk, h1.pt, h1.dt, h1.ad, h1.fam, fun b hb => ?_, fun _ _ => rfl, h1.fr, h1.on⟩
  rw [← List.append_assoc] at hb
  rcases List.mem_append.1 hb with hb | hb
  · exact h1.ro b hb
  · refine ⟨(hf b hb).2, fun c hc hm => ?_⟩
    obtain ⟨j, hj⟩ := List.getElem?_of_mem hc
    have := h.fam.lt j hj hm
    have := (hf b hb).1
    omega
theorem XX.drop {f : List Nat} {W' : World} (h : XX w g v1 c4 c5 c6 L2 L3 LA wr u2 u3 ua fs fa (ex ++ f) W') (hW : ∀ b ∈ ex, W'.heap[b]? = W.heap[b]?) : XX w g v1 c4 c5 c6 L2 L3 LA wr u2 u3 ua fs fa ex W :=
  ⟨h.blk, h.pt, h.dt, h.ad, h.fam, fun b hb => h.ro b (by rw [← List.append_assoc]; exact List.mem_append_left _ hb), fun b hb => (h.kp b (List.mem_append_left _ hb)).trans (hW b hb), h.fr, h.on⟩
theorem XX.held (h : XX w g v1 c4 c5 c6 L2 L3 LA wr u2 u3 ua fs fa ex W) {α : Type} [Rp α] {cs : List Value} {y : α} {fp : List Nat} (hr : Rp.rep W cs y fp) (hf : ∀ b ∈ fp, b ∈ ex) : Rp.rep wr cs y fp := Rp.frame hr fun b hb => h.kp b (hf b hb)
theorem XX.blk_ex (h : XX w g v1 c4 c5 c6 L2 L3 LA wr u2 u3 ua fs fa ex W) {b : Nat} {cs : List Value} (hb : b ∈ ex) (hB : Blk W b cs) : Blk wr b cs := by
  obtain ⟨t, ht⟩ := hB
  exact ⟨t, by rw [h.kp b hb]; exact ht⟩
theorem XX.start {B ga : Nat} {w1 : World} {v2 v3 : Value} {tr : List Int} {ps : List (List Int)} {ds : List Int} {f1 : List Nat} (hT : TA B w1 v1 v2 v3 ⟨tr, ps, ds⟩ f1 fs) (hB : w.heap.size ≤ B) (hw : Only [] w w1) (hW : Only [] w1 W) (hb : Blk W g [v1, v2, v3, c4, c5, c6]) (hg : w1.heap.size ≤ g)
    (hA : Acc w.heap.size 27 W (.slice (some ⟨ga, 0, none⟩) 0 0) ([] : List (List Int)) []) (hga : g < ga) (hex : ∀ b ∈ ex, b < W.heap.size ∧ b ≠ g ∧ b ≠ ga ∧ b ∉ v2.ownBlock.toList ∧ b ∉ v3.ownBlock.toList) :
    XX w g v1 c4 c5 c6 ps ds [] W v2 v3 (.slice (some ⟨ga, 0, none⟩) 0 0) fs [] ex W := by
  have hT2 := (hT.keep hW).lower hB
  have hfr := hT.fr
  have hgl := hb.lt
  have hgal := (hA.ownlt ga rfl).2
  have nd := hfr.nd
  have nd2 := (List.nodup_append.1 nd).2.1
  have nd3 := (List.nodup_append.1 nd2).1
  have l2 : ∀ b ∈ v2.ownBlock.toList, B ≤ b ∧ b < w1.heap.size := fun b hb => hT.pt.ownlt b (by simpa using hb)
  have l3 : ∀ b ∈ v3.ownBlock.toList, B ≤ b ∧ b < w1.heap.size := fun b hb => hT.dt.ownlt b (by simpa using hb)
  have d23 : ∀ b ∈ v2.ownBlock.toList, b ∉ v3.ownBlock.toList := fun b h2 h3 => (List.nodup_append.1 nd2).2.2 b (List.mem_append_left _ h2) b h3 rfl
  have ds2 : ∀ b ∈ fs.flatten, b ∉ v2.ownBlock.toList := fun b h2 h3 => (List.nodup_append.1 nd3).2.2 b h3 b h2 rfl
  have ds3 : ∀ b ∈ fs.flatten, b ∉ v3.ownBlock.toList := fun b h2 h3 => (List.nodup_append.1 nd2).2.2 b (List.mem_append_right _ h2) b h3 rfl
  have hs1 := hw.size
  have hs2 := hW.size
  refine ⟨hb, hT2.pt, hT2.dt, hA, ⟨?_, ?_⟩, ?_, fun _ _ => rfl, ?_, hw.trans hW⟩
  · show ([[g], v2.ownBlock.toList, v3.ownBlock.toList, [ga]] : List (List Nat)).flatten.Nodup
    simp only [List.flatten_cons, List.flatten_nil, List.append_nil]
    refine List.nodup_append.2 ⟨by simp, List.nodup_append.2 ⟨own_nodup _, List.nodup_append.2 ⟨own_nodup _, by simp, fun a ha b hm e => ?_⟩, fun a ha b hm e => ?_⟩, fun a ha b hm e => ?_⟩
    · subst e; have := l3 a ha; simp at hm; omega
    · subst e
      rcases List.mem_append.1 hm with hm | hm
      · exact d23 a ha hm
      · have := l2 a ha; simp at hm; omega
    · subst e
      simp at ha
      subst ha
      rcases List.mem_append.1 hm with hm | hm
      · have := l2 _ hm; omega
      · rcases List.mem_append.1 hm with hm | hm
        · have := l3 _ hm; omega
        · simp at hm; omega
  · intro c hc b hb
    have hc' : c = [g] ∨ c = v2.ownBlock.toList ∨ c = v3.ownBlock.toList ∨ c = [ga] := by simpa [xxF, Value.ownBlock] using hc
    rcases hc' with rfl | rfl | rfl | rfl
    · simp at hb; omega
    · have := l2 b hb; omega
    · have := l3 b hb; omega
    · simp at hb; omega
  · intro b hb
    have key : b < W.heap.size ∧ b ≠ g ∧ b ≠ ga ∧ b ∉ v2.ownBlock.toList ∧ b ∉ v3.ownBlock.toList := by
      rcases List.mem_append.1 hb with hb | hb
      · have hb' : b ∈ fs.flatten := by simpa using hb
        have := hT.pt.lt b hb'
        exact ⟨by omega, by omega, by omega, ds2 b hb', ds3 b hb'⟩
      · exact hex b hb
    refine ⟨key.1, fun c hc hm => ?_⟩
    have hc' : c = [g] ∨ c = v2.ownBlock.toList ∨ c = v3.ownBlock.toList ∨ c = [ga] := by simpa [xxF, Value.ownBlock] using hc
    rcases hc' with rfl | rfl | rfl | rfl
    · simp at hm; exact key.2.1 hm
    · exact key.2.2.2.1 hm
    · exact key.2.2.2.2 hm
    · simp at hm; exact key.2.2.1 hm
  · exact hT2.fr.right.left.right
theorem XX.push2 {y : List Int} {f : List Nat} {u2' : Value} (h : XX w g v1 c4 c5 c6 L2 L3 LA wa u2 u3 ua fs fa ex W) (hA : Acc w.heap.size 27 wb u2' (L2 ++ [y]) (fs ++ [f])) (oA : Only u2.ownBlock.toList wa wb) (nA : u2'.ownBlock = u2.ownBlock ∨ u2'.ownBlock = some wa.heap.size) (hf : ∀ b ∈ f, b ∈ ex ∧ b ∉ fs.flatten) (hF : Fresh w.heap.size wa f) :
    XX w g v1 c4 c5 c6 (L2 ++ [y]) L3 LA (wb.setCell ⟨g, 1, none⟩ u2') u2' u3 ua (fs ++ [f]) fa ex W := by
  have hB := h.on.size
  have hsz := oA.size
  have hd : ∀ (j : Nat) (c : List Nat), j ≠ 1 → (xxF g u2 u3 ua)[j]? = some c → ∀ b ∈ c, b ∉ u2.ownBlock.toList := fun j c hj hc => h.fam.disj j 1 hj hc rfl
  have hn : ∀ b ∈ u2'.ownBlock.toList, b ∈ u2.ownBlock.toList ∨ (wa.heap.size ≤ b ∧ b < wb.heap.size) := fun b hb => by
    have hb' : u2'.ownBlock = some b := by simpa using hb
    have hl := (hA.ownlt b hb').2
    rcases nA with e | e
    · left; rw [← e]; exact hb
    · right; rw [e] at hb'; injection hb' with hb'; omega
  have hro : ∀ b ∈ fs.flatten ++ fa.flatten ++ ex, b ∉ u2.ownBlock.toList := fun b hb => (h.ro b hb).2 _ (List.mem_of_getElem? (i := 1) rfl)
  have f1 : Fam w.heap.size wb ((xxF g u2 u3 ua).set 1 u2'.ownBlock.toList) := h.fam.set hsz hB 1 rfl (own_nodup _) hn
  have hro2 : ∀ b ∈ (fs ++ [f]).flatten ++ fa.flatten ++ ex, b < wb.heap.size ∧ ∀ c ∈ (xxF g u2 u3 ua).set 1 u2'.ownBlock.toList, b ∉ c := fun b hb => by
    have hb2 : b < wa.heap.size ∧ ∀ c ∈ xxF g u2 u3 ua, b ∉ c := by
      rw [List.flatten_append] at hb
      simp only [List.flatten_cons, List.flatten_nil, List.append_nil, List.mem_append] at hb
      rcases hb with ((hb | hb) | hb) | hb
      · exact h.ro b (List.mem_append_left _ (List.mem_append_left _ hb))
      · exact h.ro b (List.mem_append_right _ (hf b hb).1)
      · exact h.ro b (List.mem_append_left _ (List.mem_append_right _ hb))
      · exact h.ro b (List.mem_append_right _ hb)
    exact ⟨by omega, ro_set (i := 1) hb2 rfl (fun q hq => (hn q hq).imp id (fun hh => hh.1))⟩
  have hkp : ∀ b ∈ ex, wb.heap[b]? = W.heap[b]? := fun b hb => (oA.block b (h.ro b (List.mem_append_right _ hb)).1 (hro b (List.mem_append_right _ hb))).trans (h.kp b hb)
  have hon : Only [] w wb := h.on.then_ oA (fun b hb hl => by have := h.fam.ge 1 rfl hb; omega)
  have hs : Only [g] wb (wb.setCell ⟨g, 1, none⟩ u2') := (Only.refl _ _).setCell (by simp) _
  have hg0 : ∀ (j : Nat) (c : List Nat), j ≠ 0 → ((xxF g u2 u3 ua).set 1 u2'.ownBlock.toList)[j]? = some c → ∀ b ∈ c, b ∉ [g] := fun j c hj hc => f1.disj j 0 hj hc rfl
  have hrg : ∀ b ∈ (fs ++ [f]).flatten ++ fa.flatten ++ ex, b ∉ [g] := fun b hb => (hro2 b hb).2 [g] (List.mem_of_getElem? (i := 0) rfl)
  have hb9 := (h.blk.only oA (fun hm => hd 0 _ (by decide) rfl g (by simp) hm)).set 1 u2'
  simp only [List.set] at hb9
  have hfr : Fresh w.heap.size wb (fs ++ [f]).flatten := by
    have e : (fs ++ [f]).flatten = fs.flatten ++ f := by simp
    rw [e]
    have h1 : Fresh w.heap.size wa (fs.flatten ++ f) := ⟨List.nodup_append.2 ⟨h.fr.nd, hF.nd, fun a ha b hb hab => (hf b hb).2 (hab ▸ ha)⟩, fun b hb => by
      rcases List.mem_append.1 hb with hb | hb
      · exact h.fr.ge b hb
      · exact hF.ge b hb, h.fr.own.append hF.own⟩
    exact h1.only oA fun b hb => by
      rcases List.mem_append.1 hb with hb | hb
      · exact hro b (List.mem_append_left _ (List.mem_append_left _ hb))
      · exact hro b (List.mem_append_right _ (hf b hb).1)
  refine ⟨hb9, hA.only hs (fun b hb hm => hrg b (List.mem_append_left _ (List.mem_append_left _ hb)) hm) (fun q hq hm => hg0 1 _ (by decide) rfl q (by simp [hq]) hm),
    (h.dt.only oA (fun q hq hm => hd 2 _ (by decide) rfl q (by simp [hq]) hm)).only hs (fun q hq hm => hg0 2 _ (by decide) rfl q (by simp [hq]) hm),
    (h.ad.only oA (fun b hb hm => hro b (List.mem_append_left _ (List.mem_append_right _ hb)) hm) (fun q hq hm => hd 3 _ (by decide) rfl q (by simp [hq]) hm)).only hs (fun b hb hm => hrg b (List.mem_append_left _ (List.mem_append_right _ hb)) hm) (fun q hq hm => hg0 3 _ (by decide) rfl q (by simp [hq]) hm),
    f1.keep hs.size, fun b hb => ⟨Nat.lt_of_lt_of_le (hro2 b hb).1 hs.size, (hro2 b hb).2⟩,
    fun b hb => (hs.block b (hro2 b (List.mem_append_right _ hb)).1 (hrg b (List.mem_append_right _ hb))).trans (hkp b hb),
    hfr.only hs (fun b hb => hrg b (List.mem_append_left _ (List.mem_append_left _ hb))), hon.then_ hs (fun b hb hl => by have := h.fam.ge 0 rfl (b := g) (by simp); simp at hb; omega)⟩
theorem XX.push3 {n : Int} {u3' : Value} (h : XX w g v1 c4 c5 c6 L2 L3 LA wa u2 u3 ua fs fa ex W) (hA : AccI w.heap.size 2 wb u3' (L3 ++ [n])) (oA : Only u3.ownBlock.toList wa wb) (nA : u3'.ownBlock = u3.ownBlock ∨ u3'.ownBlock = some wa.heap.size) :
    XX w g v1 c4 c5 c6 L2 (L3 ++ [n]) LA (wb.setCell ⟨g, 2, none⟩ u3') u2 u3' ua fs fa ex W := by
  have hB := h.on.size
  have hsz := oA.size
  have hd : ∀ (j : Nat) (c : List Nat), j ≠ 2 → (xxF g u2 u3 ua)[j]? = some c → ∀ b ∈ c, b ∉ u3.ownBlock.toList := fun j c hj hc => h.fam.disj j 2 hj hc rfl
  have hn : ∀ b ∈ u3'.ownBlock.toList, b ∈ u3.ownBlock.toList ∨ (wa.heap.size ≤ b ∧ b < wb.heap.size) := fun b hb => by
    have hb' : u3'.ownBlock = some b := by simpa using hb
    have hl := (hA.ownlt b hb').2
    rcases nA with e | e
    · left; rw [← e]; exact hb
    · right; rw [e] at hb'; injection hb' with hb'; omega
  have hro : ∀ b ∈ fs.flatten ++ fa.flatten ++ ex, b ∉ u3.ownBlock.toList := fun b hb => (h.ro b hb).2 _ (List.mem_of_getElem? (i := 2) rfl)
  have f1 : Fam w.heap.size wb ((xxF g u2 u3 ua).set 2 u3'.ownBlock.toList) := h.fam.set hsz hB 2 rfl (own_nodup _) hn
  have hro2 : ∀ b ∈ fs.flatten ++ fa.flatten ++ ex, b < wb.heap.size ∧ ∀ c ∈ (xxF g u2 u3 ua).set 2 u3'.ownBlock.toList, b ∉ c := fun b hb => by
    have h2 := (h.ro b hb).1
    exact ⟨by omega, ro_set (i := 2) (h.ro b hb) rfl (fun q hq => (hn q hq).imp id (fun hh => hh.1))⟩
  have hkp : ∀ b ∈ ex, wb.heap[b]? = W.heap[b]? := fun b hb => (oA.block b (h.ro b (List.mem_append_right _ hb)).1 (hro b (List.mem_append_right _ hb))).trans (h.kp b hb)
  have hon : Only [] w wb := h.on.then_ oA (fun b hb hl => by have := h.fam.ge 2 rfl hb; omega)
  have hs : Only [g] wb (wb.setCell ⟨g, 2, none⟩ u3') := (Only.refl _ _).setCell (by simp) _
  have hg0 : ∀ (j : Nat) (c : List Nat), j ≠ 0 → ((xxF g u2 u3 ua).set 2 u3'.ownBlock.toList)[j]? = some c → ∀ b ∈ c, b ∉ [g] := fun j c hj hc => f1.disj j 0 hj hc rfl
  have hrg : ∀ b ∈ fs.flatten ++ fa.flatten ++ ex, b ∉ [g] := fun b hb => (hro2 b hb).2 [g] (List.mem_of_getElem? (i := 0) rfl)
  have hb9 := (h.blk.only oA (fun hm => hd 0 _ (by decide) rfl g (by simp) hm)).set 2 u3'
  simp only [List.set] at hb9
  refine ⟨hb9, (h.pt.only oA (fun b hb hm => hro b (List.mem_append_left _ (List.mem_append_left _ hb)) hm) (fun q hq hm => hd 1 _ (by decide) rfl q (by simp [hq]) hm)).only hs (fun b hb hm => hrg b (List.mem_append_left _ (List.mem_append_left _ hb)) hm) (fun q hq hm => hg0 1 _ (by decide) rfl q (by simp [hq]) hm),
    hA.only hs (fun q hq hm => hg0 2 _ (by decide) rfl q (by simp [hq]) hm),
    (h.ad.only oA (fun b hb hm => hro b (List.mem_append_left _ (List.mem_append_right _ hb)) hm) (fun q hq hm => hd 3 _ (by decide) rfl q (by simp [hq]) hm)).only hs (fun b hb hm => hrg b (List.mem_append_left _ (List.mem_append_right _ hb)) hm) (fun q hq hm => hg0 3 _ (by decide) rfl q (by simp [hq]) hm),
    f1.keep hs.size, fun b hb => ⟨Nat.lt_of_lt_of_le (hro2 b hb).1 hs.size, (hro2 b hb).2⟩,
    fun b hb => (hs.block b (hro2 b (List.mem_append_right _ hb)).1 (hrg b (List.mem_append_right _ hb))).trans (hkp b hb),
    (h.fr.only oA (fun b hb => hro b (List.mem_append_left _ (List.mem_append_left _ hb)))).only hs (fun b hb => hrg b (List.mem_append_left _ (List.mem_append_left _ hb))), hon.then_ hs (fun b hb hl => by have := h.fam.ge 0 rfl (b := g) (by simp); simp at hb; omega)⟩
theorem XX.pushA {y : List Int} {f : List Nat} {ua' : Value} (h : XX w g v1 c4 c5 c6 L2 L3 LA wa u2 u3 ua fs fa ex W) (hA : Acc w.heap.size 27 wb ua' (LA ++ [y]) (fa ++ [f])) (oA : Only ua.ownBlock.toList wa wb) (nA : ua'.ownBlock = ua.ownBlock ∨ ua'.ownBlock = some wa.heap.size) (hf : ∀ b ∈ f, b ∈ ex) :
    XX w g v1 c4 c5 c6 L2 L3 (LA ++ [y]) wb u2 u3 ua' fs (fa ++ [f]) ex W := by
  have hB := h.on.size
  have hsz := oA.size
  have hd : ∀ (j : Nat) (c : List Nat), j ≠ 3 → (xxF g u2 u3 ua)[j]? = some c → ∀ b ∈ c, b ∉ ua.ownBlock.toList := fun j c hj hc => h.fam.disj j 3 hj hc rfl
  have hn : ∀ b ∈ ua'.ownBlock.toList, b ∈ ua.ownBlock.toList ∨ (wa.heap.size ≤ b ∧ b < wb.heap.size) := fun b hb => by
    have hb' : ua'.ownBlock = some b := by simpa using hb
    have hl := (hA.ownlt b hb').2
    rcases nA with e | e
    · left; rw [← e]; exact hb
    · right; rw [e] at hb'; injection hb' with hb'; omega
  have hro : ∀ b ∈ fs.flatten ++ fa.flatten ++ ex, b ∉ ua.ownBlock.toList := fun b hb => (h.ro b hb).2 _ (List.mem_of_getElem? (i := 3) rfl)
  have f1 : Fam w.heap.size wb ((xxF g u2 u3 ua).set 3 ua'.ownBlock.toList) := h.fam.set hsz hB 3 rfl (own_nodup _) hn
  have hro2 : ∀ b ∈ fs.flatten ++ (fa ++ [f]).flatten ++ ex, b < wb.heap.size ∧ ∀ c ∈ (xxF g u2 u3 ua).set 3 ua'.ownBlock.toList, b ∉ c := fun b hb => by
    have hb2 : b < wa.heap.size ∧ ∀ c ∈ xxF g u2 u3 ua, b ∉ c := by
      rw [List.flatten_append] at hb
      simp only [List.flatten_cons, List.flatten_nil, List.append_nil, List.mem_append] at hb
      rcases hb with (hb | hb | hb) | hb
      · exact h.ro b (List.mem_append_left _ (List.mem_append_left _ hb))
      · exact h.ro b (List.mem_append_left _ (List.mem_append_right _ hb))
      · exact h.ro b (List.mem_append_right _ (hf b hb))
      · exact h.ro b (List.mem_append_right _ hb)
    exact ⟨by omega, ro_set (i := 3) hb2 rfl (fun q hq => (hn q hq).imp id (fun hh => hh.1))⟩
  have hkp : ∀ b ∈ ex, wb.heap[b]? = W.heap[b]? := fun b hb => (oA.block b (h.ro b (List.mem_append_right _ hb)).1 (hro b (List.mem_append_right _ hb))).trans (h.kp b hb)
  have hon : Only [] w wb := h.on.then_ oA (fun b hb hl => by have := h.fam.ge 3 rfl hb; omega)
  exact ⟨h.blk.only oA (fun hm => hd 0 _ (by decide) rfl g (by simp) hm),
    h.pt.only oA (fun b hb hm => hro b (List.mem_append_left _ (List.mem_append_left _ hb)) hm) (fun q hq hm => hd 1 _ (by decide) rfl q (by simp [hq]) hm),
    h.dt.only oA (fun q hq hm => hd 2 _ (by decide) rfl q (by simp [hq]) hm), hA, f1, hro2, hkp, h.fr.only oA (fun b hb => hro b (List.mem_append_left _ (List.mem_append_left _ hb))), hon⟩
theorem XX.ta {tr : List Int} {f1 : List Nat} (h : XX w g v1 c4 c5 c6 L2 L3 LA wr u2 u3 ua fs fa ex W) (ht : Rd wr v1 tr f1) (hF : Fresh w.heap.size wr f1) (hx : ∀ b ∈ f1, b ∈ ex ∧ b ∉ fs.flatten) : TA w.heap.size wr v1 u2 u3 ⟨tr, L2, L3⟩ f1 fs := by
  refine ⟨ht, h.pt, h.dt, ?_⟩
  have F2 := h.pt.fresh h.fr
  have F3 := h.dt.fresh
  have d12 : ∀ b ∈ f1, b ∉ u2.ownBlock.toList := fun b hb => (h.ro b (List.mem_append_right _ (hx b hb).1)).2 _ (List.mem_of_getElem? (i := 1) rfl)
  have d13 : ∀ b ∈ f1, b ∉ u3.ownBlock.toList := fun b hb => (h.ro b (List.mem_append_right _ (hx b hb).1)).2 _ (List.mem_of_getElem? (i := 2) rfl)
  have ds3 : ∀ b ∈ fs.flatten, b ∉ u3.ownBlock.toList := fun b hb => (h.ro b (List.mem_append_left _ (List.mem_append_left _ hb))).2 _ (List.mem_of_getElem? (i := 2) rfl)
  have d23 := h.fam.disj 1 2 (by decide) rfl rfl
  refine ⟨List.nodup_append.2 ⟨hF.nd, List.nodup_append.2 ⟨F2.nd, F3.nd, fun a ha b hb e => ?_⟩, fun a ha b hb e => ?_⟩, fun b hb => ?_, hF.own.append (F2.own.append F3.own)⟩
  · subst e
    rcases List.mem_append.1 ha with ha | ha
    · exact d23 a ha hb
    · exact ds3 a ha hb
  · subst e
    rcases List.mem_append.1 hb with hb | hb
    · rcases List.mem_append.1 hb with hb | hb
      · exact d12 a ha hb
      · exact (hx a ha).2 hb
    · exact d13 a ha hb
  · rcases List.mem_append.1 hb with hb | hb
    · exact hF.ge b hb
    · rcases List.mem_append.1 hb with hb | hb
      · exact F2.ge b hb
      · exact F3.ge b hb
end
end Go.Proofs.Ytpkplmnpepkdaaa

namespace Go.Proofs.Ytpkplmnpepkdaaa
open Go.RowKit
set_option maxRecDepth 10000

theorem addL_take (x : Puzzle) (ps : List (List Int)) (q : List Int) (ls : List Int) (j : Nat) (h : j < ls.length) : addL x ps q (ls.take (j + 1)) [] = (if nxt x q ls[j] ∈ ps ++ addL x ps q (ls.take j) [] then addL x ps q (ls.take j) [] else addL x ps q (ls.take j) [] ++ [nxt x q ls[j]]) := by
  have key : ∀ (l1 : List Int) (l : Int) (a : List (List Int)), addL x ps q (l1 ++ [l]) a = (if nxt x q l ∈ ps ++ addL x ps q l1 a then addL x ps q l1 a else addL x ps q l1 a ++ [nxt x q l]) := by
    intro l1
    induction l1 with
    | nil => intro l a; simp [addL]
    | cons y l1 ih => intro l a; simp only [List.cons_append, addL]; exact ih l _
  rw [take_succ_get ls j h]
  exact key _ _ _
theorem IntsA.drop_ {w : World} {b off cap : Nat} {l : List Int} {fp : List Nat} (h : IntsA w (some ⟨b, off, none⟩) cap l fp) {k : Nat} (hk : k ≤ l.length) : IntsA w (some ⟨b, off + k, none⟩) (cap - k) (l.drop k) fp := by
  have hl := h.len
  have hc := h.cap
  refine ⟨by rw [List.length_drop]; omega, by omega, fun x hx => h.wf x (List.mem_of_mem_drop hx), fun i hi => ?_, h.lt, h.one⟩
  rw [List.length_drop] at hi
  obtain ⟨b', off', ha, hf, hcell⟩ := h.at_ (k + i) (by omega)
  injection ha with ha; injection ha with e1 e2; subst e1; subst e2
  refine ⟨b, off + k, rfl, hf, ?_⟩
  rw [Nat.add_assoc, List.getElem_drop]
  exact hcell
theorem idxL_ge {l : List (List Int)} {p : List Int} (h : p ∈ l) : 0 ≤ idxL l p := by
  unfold idxL idxF
  cases hf : l.findIdx? (fun q => decide (q = p)) with
  | none => rw [List.findIdx?_eq_none_iff] at hf; have := hf p h; simp at this
  | some k => simp
theorem idxL_neg {l : List (List Int)} {p : List Int} (h : p ∉ l) : idxL l p < 0 := by
  rcases Int.lt_or_le (idxL l p) 0 with h1 | h1
  · exact h1
  · exact absurd (idxL_mem h1).1 h
/-- a job that can be expanded -/
structure CanF (x : Puzzle) (j : FillJob) (n : Nat) : Prop where
  vp : validPz x = true
  tr : trackB x.points j.table.tracked = true
  nx : j.next = n
  lt : n < j.table.patterns.length
  ln : j.table.distances.length = j.table.patterns.length
  le : j.table.patterns.length ≤ 3000
  ps : ∀ q ∈ j.table.patterns, patB x.points j.table.tracked.length q = true
  ds : ∀ d ∈ j.table.distances, 0 ≤ d ∧ d ≤ 3000
  lg : j.log.size ≤ 2000000
theorem CanF.mid {x : Puzzle} {j : FillJob} {n : Nat} (h : CanF x j n) : midT j.table := by
  have h1 := (trackB_iff.1 h.tr).2.len
  have h2 := (validPz_facts h.vp).2.1
  have h3 := h.le
  have h4 := h.ln
  refine ⟨by omega, by omega, fun y hy => ?_, by omega⟩
  have := (patB_iff.1 (h.ps y hy)).1
  omega

end Go.Proofs.Ytpkplmnpepkdaaa

namespace Go.Proofs.Ytpkplmnpepkdaaa
open Go.RowKit
set_option maxRecDepth 10000

def stepF (x : Puzzle) (j : FillJob) : FillJob × Bool :=
  if j.next = j.table.patterns.length then (j, false) else if 60000 < (expandF x j).log.size then (j, false) else (expandF x j, true)
theorem stepF_done {x : Puzzle} {j : FillJob} (h : j.next = j.table.patterns.length) : stepF x j = (j, false) := by unfold stepF; rw [if_pos h]
theorem stepF_long {x : Puzzle} {j : FillJob} (h : j.next ≠ j.table.patterns.length) (h2 : 60000 < (expandF x j).log.size) : stepF x j = (j, false) := by unfold stepF; rw [if_neg h, if_pos h2]
theorem stepF_go {x : Puzzle} {j : FillJob} (h : j.next ≠ j.table.patterns.length) (h2 : ¬ 60000 < (expandF x j).log.size) : stepF x j = (expandF x j, true) := by unfold stepF; rw [if_neg h, if_neg h2]
/-- a job that may be stepped -/
structure GoF (x : Puzzle) (j : FillJob) (n : Nat) : Prop where
  vp : validPz x = true
  tr : trackB x.points j.table.tracked = true
  nx : j.next = n
  lt : n ≤ j.table.patterns.length
  ln : j.table.distances.length = j.table.patterns.length
  le : j.table.patterns.length ≤ 3000
  ps : ∀ q ∈ j.table.patterns, patB x.points j.table.tracked.length q = true
  ds : ∀ d ∈ j.table.distances, 0 ≤ d ∧ d ≤ 3000
  lg : j.log.size ≤ 2000000
theorem GoF.can {x : Puzzle} {j : FillJob} {n : Nat} (h : GoF x j n) (hl : n < j.table.patterns.length) : CanF x j n := ⟨h.vp, h.tr, h.nx, hl, h.ln, h.le, h.ps, h.ds, h.lg⟩

end Go.Proofs.Ytpkplmnpepkdaaa

namespace Go.Proofs.Ytpkplmnpepkdaaa
open Go.RowKit
set_option maxRecDepth 10000

theorem atF_len_le (x : Puzzle) (tr : List Int) (n : Nat) : (atF x tr n).table.patterns.length ≤ (atF x tr (n + 1)).table.patterns.length := by
  show _ ≤ ((atF x tr n).table.patterns ++ newF x (atF x tr n)).length
  rw [List.length_append]; omega
theorem GoF.mid {x : Puzzle} {j : FillJob} {n : Nat} (h : GoF x j n) : midT j.table := by
  have h1 := (trackB_iff.1 h.tr).2.len
  have h2 := (validPz_facts h.vp).2.1
  have h3 := h.le
  have h4 := h.ln
  refine ⟨by omega, by omega, fun y hy => ?_, by omega⟩
  have := (patB_iff.1 (h.ps y hy)).1
  omega
end Go.Proofs.Ytpkplmnpepkdaaa

namespace Go.Proofs.Ytpkplmnpepkdaaa
open Go.RowKit
set_option maxRecDepth 10000

/-- the job after n expansions, with s bytes synced -/
def chF (x : Puzzle) (tr : List Int) (s : Int) (n : Nat) : FillJob := { atF x tr n with synced := s }
theorem chF_next (x : Puzzle) (tr : List Int) (s : Int) (n : Nat) : expandF x (chF x tr s n) = chF x tr s (n + 1) := rfl
theorem chF_go {x : Puzzle} {tr : List Int} {s : Int} {n : Nat} (h1 : (bTab x tr).isSome = true) (h2 : okF x tr n) : GoF x (chF x tr s n) n := by
  obtain ⟨hg, hn, -⟩ := atF_good h1 n h2
  obtain ⟨t, ht⟩ := Option.isSome_iff_exists.1 h1
  have hf := bTab_facts ht
  refine ⟨hf.1, ?_, hg.nx, ?_, hg.ln, hg.le, ?_, ?_, ?_⟩
  · show trackB x.points (atF x tr n).table.tracked = true
    rw [hg.tk]; exact hf.2.1
  · show n ≤ (atF x tr n).table.patterns.length
    rcases Nat.eq_zero_or_pos n with h0 | h0
    · omega
    · obtain ⟨m, rfl⟩ : ∃ m, n = m + 1 := ⟨n - 1, by omega⟩
      have h5 := h2 m (by omega)
      have h6 := atF_len_le x tr m
      omega
  · show ∀ q ∈ (atF x tr n).table.patterns, patB x.points (atF x tr n).table.tracked.length q = true
    rw [hg.tk]; exact hg.ps
  · intro d hd; have := hg.ds d hd; omega
  · show (atF x tr n).log.size ≤ 2000000
    have := hg.lg; omega
/-- a step goes on along the chain -/
theorem chF_step {x : Puzzle} {tr : List Int} {s : Int} {n : Nat} (h1 : (bTab x tr).isSome = true) (h2 : okF x tr n) (h3 : (stepF x (chF x tr s n)).2 = true) : okF x tr (n + 1) ∧ (stepF x (chF x tr s n)).1 = chF x tr s (n + 1) := by
  have hg := chF_go (s := s) h1 h2
  have hd : (chF x tr s n).next ≠ (chF x tr s n).table.patterns.length := by
    intro hd; rw [stepF_done hd] at h3; cases h3
  have hl : ¬ 60000 < (expandF x (chF x tr s n)).log.size := by
    intro hl; rw [stepF_long hd hl] at h3; cases h3
  refine ⟨fun m hm => ?_, by rw [stepF_go hd hl]; exact chF_next x tr s n⟩
  rcases Nat.lt_or_ge m n with h | h
  · exact h2 m h
  · have e : m = n := by omega
    subst e
    have h4 := hg.lt
    have h5 := hg.nx
    have h6 : m ≠ (atF x tr m).table.patterns.length := fun he => hd (by rw [h5]; exact congrArg Nat.cast he)
    have h7 : m ≤ (atF x tr m).table.patterns.length := h4
    omega
theorem chF_stay {x : Puzzle} {j : FillJob} (h : (stepF x j).2 = false) : (stepF x j).1 = j := by
  by_cases h1 : j.next = j.table.patterns.length
  · rw [stepF_done h1]
  · by_cases h2 : 60000 < (expandF x j).log.size
    · rw [stepF_long h1 h2]
    · rw [stepF_go h1 h2] at h; cases h
end Go.Proofs.Ytpkplmnpepkdaaa
