/- Histories: a word more, a word less; copies of sessions. -/
import Derived.Test.YtpfmkjcngknecaaEval
import Derived.BigQuiet
namespace Go.Proofs.Ytpfmkjcngknecaa
open Go.RowKit
set_option maxRecDepth 10000

theorem pushW_long {l : List (List Int)} {y : List Int} (h : 40 < l.length + 1) : pushW l y = (l ++ [y]).drop 1 := if_pos h
theorem pushW_short {l : List (List Int)} {y : List Int} (h : ¬ 40 < l.length + 1) : pushW l y = l ++ [y] := if_neg h
theorem Rd.frm {α : Type} [Rp α] {w w' : World} {a : Option Addr} {cap : Nat} {xs : List α} {ob : List Nat} {fps : List (List Nat)} (ho : Only [] w w') (h : SeqA w a cap xs ob fps) : ∀ b ∈ ob ++ fps.flatten, w'.heap[b]? = w.heap[b]? :=
  fun b hb => ho.block b (h.lt_all b hb) (by simp)
theorem flatten_take : ∀ (fs : List (List Nat)) (k : Nat), (fs.take k).flatten.Sublist fs.flatten
  | [], _ => by simp
  | _ :: _, 0 => by simp
  | f :: fs, k + 1 => by simpa using List.Sublist.append (List.Sublist.refl f) (flatten_take fs k)
theorem flatten_drop1 (fs : List (List Nat)) : (fs.drop 1).flatten.Sublist fs.flatten := by
  cases fs with
  | nil => simp
  | cons f fs => simp
theorem Fresh.sublist {B : Nat} {w : World} {fp fp' : List Nat} (h : Fresh B w fp) (hs : fp'.Sublist fp) : Fresh B w fp' :=
  ⟨h.nd.sublist hs, fun b hb => h.ge b (hs.subset hb), h.own.sub fun _ hb => hs.subset hb⟩
section
variable {α : Type} [Rp α] {B : Nat} {e : TypeId} {w : World} {v : Value} {l : List α} {fs : List (List Nat)}
/-- an appended slice without its first element: its memory -/
theorem Acc.drop1 (h : Acc B e w v l fs) (hs : Rp.size α = 1) (hl : 0 < l.length) (hf : Fresh B w fs.flatten) :
    ∃ g c fp, v = .slice (some ⟨g, 0, none⟩) l.length c ∧ 1 ≤ c ∧ c ≤ maxLen ∧ l.length ≤ c ∧ Rd w (.slice (some ⟨g, 1, none⟩) (l.length - 1) (c - 1)) (l.drop 1) fp ∧ Fresh B w fp ∧ ∀ b ∈ fp, b ∈ v.ownBlock.toList ++ fs.flatten := by
  obtain ⟨css, ho, hcl, hr⟩ := h.own
  obtain ⟨a, cap, hv, hE, hI⟩ := own_seq (xs := l) (fps := fs) ho (by omega) hcl h.fl hr
  obtain ⟨b, off, cs, e1, e2, -, -⟩ := hI.at_ 0 hl
  have hF := h.fresh hf
  have e3 : off = 0 := by
    rcases ho.2 with ⟨h1, h2⟩ | ⟨g, cp, cur, h1, -⟩
    · omega
    · rw [hv] at h1
      injection h1 with h1 _ _
      rw [e1] at h1
      injection h1 with h1
      injection h1
  subst e1
  subst e3
  have hd := hI.drop1 hs hl
  have h1 := hI.len
  have h2 := hI.cap
  have hlen : (l.drop 1).length = l.length - 1 := by simp
  have hsub : (v.ownBlock.toList ++ (fs.drop 1).flatten).Sublist (v.ownBlock.toList ++ fs.flatten) := List.Sublist.append (List.Sublist.refl _) (flatten_drop1 fs)
  refine ⟨b, cap, _, hv, by omega, h2, h1, ?_, hF.sublist hsub, fun x hx => hsub.subset hx⟩
  have := hd.rd
  rwa [hlen] at this
end
set_option maxHeartbeats 1000000 in
theorem pushWord_rd (vl vy : Value) (l : List (List Int)) (y : List Int) (fl fy : List Nat) (w : World) (hl : Rd w vl l fl) (hy : Rd w vy y fy) (hll : l.length ≤ 40) (hl2 : ∀ x ∈ l, x.length ≤ 2097152) (hyl : y.length ≤ 1073741824) :
    Calls Try.prog 67 #[vl, vy] w fun e w' => ∃ v fp', e = .returned v ∧ Rd w' v (pushW l y) fp' ∧ Fresh w.heap.size w' fp' ∧ Only [] w w' := by
  obtain ⟨i1, hi, hz0, hz1, hz2⟩ := info_parts Try.info22
  obtain ⟨al, cl, obl, fpsl, rfl, -, Sl⟩ := hl.open_
  have HSl := Lib.hid Sl
  have Hl2 := Lib.hid hl2
  clear Sl hl2
  have hap : (l ++ [y]).length = l.length + 1 := by simp
  have Hap := Lib.hid hap
  clear hap
  by_cases hlong : 40 < l.length + 1
  · go_enter Try.func67, Try.ntmps67
    go_wp2_with (first
      | (go_at_call 96; (with_reducible refine (copyLists_acc al cl l obl fpsl _ HSl.out (by omega) Hl2.out).mono ?_); rintro e w1 ⟨v1, fs1, rfl, A1, F1, t1⟩; obtain ⟨a1, c1, rfl⟩ := A1.form)
      | (go_at_call 95; (with_reducible refine (copyInts_rd _ y _ _ (Rp.keep hy t1) hyl).mono ?_); rintro e w2 ⟨v2, f2, rfl, r2, F2, t2⟩; obtain ⟨a2, c2, rfl, -⟩ := r2.ints)
      | (at_builtin; go_loud (refine wpList_pushF rfl _ _ 22 rfl w.heap.size 25 i1 _ 24 Try.underlying22 hi hz0 hz1 hz2 rfl (by decide) (by decide) w1 _ l fs1 rfl A1 F1 (t2.alloc _) t1.size w2.heap.size 1 [.slice a2 y.length c2] y f2 rfl (lit_src w2 [.slice a2 y.length c2] _ rfl) (by intro u hu; simp at hu; subst hu; rfl) (Rp.keep r2 ((Only.refl _ _).alloc _)) (F2.keep ((Only.refl _ _).alloc _)) (by omega) w ((t1.trans t2).alloc _) (Nat.le_refl _) ?_; intro v3 w3 hA3 hF3 hK3 _; obtain ⟨g3, c3, fp3, rfl, k1, k2, k3, R3, F3, -⟩ := hA3.drop1 rfl (by simp) hF3; rw [Hap.out] at k3 R3; have k4 : 1 < c3 := (by omega)))
      | fail "no arm")
    go_ret
    exact ⟨_, fp3, rfl, by rw [pushW_long hlong]; exact R3, F3, hK3⟩
  · go_enter Try.func67, Try.ntmps67
    go_wp2_with (first
      | (go_at_call 96; (with_reducible refine (copyLists_acc al cl l obl fpsl _ HSl.out (by omega) Hl2.out).mono ?_); rintro e w1 ⟨v1, fs1, rfl, A1, F1, t1⟩; obtain ⟨a1, c1, rfl⟩ := A1.form)
      | (go_at_call 95; (with_reducible refine (copyInts_rd _ y _ _ (Rp.keep hy t1) hyl).mono ?_); rintro e w2 ⟨v2, f2, rfl, r2, F2, t2⟩; obtain ⟨a2, c2, rfl, -⟩ := r2.ints)
      | (at_builtin; go_loud (refine wpList_pushF rfl _ _ 22 rfl w.heap.size 25 i1 _ 24 Try.underlying22 hi hz0 hz1 hz2 rfl (by decide) (by decide) w1 _ l fs1 rfl A1 F1 (t2.alloc _) t1.size w2.heap.size 1 [.slice a2 y.length c2] y f2 rfl (lit_src w2 [.slice a2 y.length c2] _ rfl) (by intro u hu; simp at hu; subst hu; rfl) (Rp.keep r2 ((Only.refl _ _).alloc _)) (F2.keep ((Only.refl _ _).alloc _)) (by omega) w ((t1.trans t2).alloc _) (Nat.le_refl _) ?_; intro v3 w3 hA3 hF3 hK3 _; obtain ⟨a3, c3, rfl⟩ := hA3.form; have R3 := hA3.rd (by decide); have F3 := hA3.fresh hF3; rw [Hap.out] at R3 F3))
      | fail "no arm")
    go_ret
    exact ⟨_, _, rfl, by rw [pushW_short hlong]; exact R3, F3, hK3⟩
theorem wpList_push2f {P : Program} {α : Type} [Rp α] {ops : Array Oper} {rest : List Oper} {o : Oper} {a : Act} {w : World} {Q : Exit → Act → World → Prop} (hgd : o.guard = none) (s x : Operand) (t : TypeId)
    (ho : o.op = .call { callee := .builtin .append, args := #[s, x], argTypes := #[t, t] })
    (B : Nat) (e : TypeId) (i : TypeInfo) (z : Value) (bytes : Nat) (ht : P.underlying t = some (.slice e)) (hi : P.info? e = some i) (hz : i.zero = some z)
    (hsize : i.size = Rp.size α) (hby : i.bytes = bytes) (hzs : z.cells.size = Rp.size α) (hsz : 0 < Rp.size α) (hbb : bytes ≤ 65536)
    (w0 : World) (v : Value) (l : List α) (fs : List (List Nat)) (hs : a.eval s = v) (hA : Acc B e w0 v l fs) (hF : Fresh B w0 fs.flatten) (hK0 : Only [] w0 w) (hB : B ≤ w0.heap.size)
    (g c : Nat) (cs : List Value) (y : α) (fp : List Nat) (hx : a.eval x = .slice (some ⟨g, 0, none⟩) 1 c) (hsrc : ∀ j u, cs[j]? = some u → w.cell? ⟨g, j, none⟩ = some u) (hcs : ∀ u ∈ cs, u.oneCell' = true)
    (hy : Rp.rep w cs y fp) (hFy : Fresh w0.heap.size w fp) (hlen : l.length + 1 ≤ 1073741824)
    (h : ∀ v' w', Acc B e w' v' (l ++ [y]) (fs ++ [fp]) → Fresh B w' (fs ++ [fp]).flatten → Only v.ownBlock.toList w w' → (∀ b ∈ v'.ownBlock.toList ++ (fs ++ [fp]).flatten, b ∈ v.ownBlock.toList ++ fs.flatten ∨ w0.heap.size ≤ b) → wpList P ops Q rest (a.put o.dst v') w') : wpList P ops Q (o :: rest) a w :=
  wpList_plain hgd fun _ hK => wp_push2 s x t ho B e i z bytes ht hi hz hsize hby hzs hsz hbb w0 v l fs hs hA hK0 hB g c cs y fp hx hsrc hcs hy
    (fun b hb hv => by have := (hA.ownlt b hv).2; have := hFy.ge b hb; omega) hlen fun v' w' h1 h2 _ h4 h5 => hK _ _ (h v' w' h1 (h4 hF hFy) h2 (fun b hb => by
      rcases List.mem_append.1 hb with hb | hb
      · have hb' : v'.ownBlock = some b := by simpa using hb
        rcases h5 with e1 | e1
        · exact .inl (List.mem_append_left _ (by rw [← e1]; exact hb))
        · rw [e1] at hb'
          injection hb' with hb'
          have := hK0.size
          exact .inr (by omega)
      · rw [List.flatten_append] at hb
        rcases List.mem_append.1 hb with hb | hb
        · exact .inl (List.mem_append_right _ hb)
        · exact .inr (hFy.ge b (by simpa using hb))))
set_option maxHeartbeats 1000000 in
/-- the program's push: the slice is the call's own, and may be written behind its end -/
theorem pushed_acc {B : Nat} (vl vy : Value) (l : List (List Int)) (y : List Int) (fsl : List (List Nat)) (fy : List Nat) (w : World) (hA : Acc B 25 w vl l fsl) (hF : Fresh B w fsl.flatten) (hy : Rd w vy y fy) (hB : B ≤ w.heap.size) (hll : l.length ≤ 40) (hyl : y.length ≤ 1073741824) :
    Calls Try.prog 71 #[vl, vy] w fun e w' => ∃ v fp', e = .returned v ∧ Rd w' v (pushW l y) fp' ∧ Fresh B w' fp' ∧ (∀ b ∈ fp', b ∈ vl.ownBlock.toList ++ fsl.flatten ∨ w.heap.size ≤ b) ∧ Only vl.ownBlock.toList w w' := by
  obtain ⟨i1, hi, hz0, hz1, hz2⟩ := info_parts Try.info22
  obtain ⟨al, cl, rfl⟩ := hA.form
  have hap : (l ++ [y]).length = l.length + 1 := by simp
  have Hap := Lib.hid hap
  have HA := Lib.hid hA
  have HF := Lib.hid hF
  clear hap hA hF
  by_cases hlong : 40 < l.length + 1
  · go_enter Try.func71, Try.ntmps71
    go_wp2_with (first
      | (go_at_call 98; (with_reducible refine (Clone_rd _ y _ _ hy hyl).mono ?_); rintro e w2 ⟨v2, f2, rfl, r2, F2, t2⟩; obtain ⟨a2, c2, rfl, -⟩ := r2.ints)
      | (at_builtin; go_loud (refine wpList_push2f rfl _ _ 22 rfl B 25 i1 _ 24 Try.underlying22 hi hz0 hz1 hz2 rfl (by decide) (by decide) w (.slice al l.length cl) l fsl rfl HA.out HF.out (t2.alloc _) hB w2.heap.size 1 [.slice a2 y.length c2] y f2 rfl (lit_src w2 [.slice a2 y.length c2] _ rfl) (by intro u hu; simp at hu; subst hu; rfl) (Rp.keep r2 ((Only.refl _ _).alloc _)) (F2.keep ((Only.refl _ _).alloc _)) (by omega) ?_; intro v3 w3 hA3 hF3 hO3 hs3; obtain ⟨g3, c3, fp3, rfl, k1, k2, k3, R3, F3, hs4⟩ := hA3.drop1 rfl (by simp) hF3; rw [Hap.out] at k3 R3; have k4 : 1 < c3 := (by omega)))
      | fail "no arm")
    go_ret
    exact ⟨_, fp3, rfl, by rw [pushW_long hlong]; exact R3, F3, fun b hb => hs3 b (hs4 b hb), ((t2.alloc _).weaken _).trans hO3⟩
  · go_enter Try.func71, Try.ntmps71
    go_wp2_with (first
      | (go_at_call 98; (with_reducible refine (Clone_rd _ y _ _ hy hyl).mono ?_); rintro e w2 ⟨v2, f2, rfl, r2, F2, t2⟩; obtain ⟨a2, c2, rfl, -⟩ := r2.ints)
      | (at_builtin; go_loud (refine wpList_push2f rfl _ _ 22 rfl B 25 i1 _ 24 Try.underlying22 hi hz0 hz1 hz2 rfl (by decide) (by decide) w (.slice al l.length cl) l fsl rfl HA.out HF.out (t2.alloc _) hB w2.heap.size 1 [.slice a2 y.length c2] y f2 rfl (lit_src w2 [.slice a2 y.length c2] _ rfl) (by intro u hu; simp at hu; subst hu; rfl) (Rp.keep r2 ((Only.refl _ _).alloc _)) (F2.keep ((Only.refl _ _).alloc _)) (by omega) ?_; intro v3 w3 hA3 hF3 hO3 hs3; obtain ⟨a3, c3, rfl⟩ := hA3.form; have R3 := hA3.rd (by decide); have F3 := hA3.fresh hF3; rw [Hap.out] at R3 F3 hs3))
      | fail "no arm")
    go_ret
    exact ⟨_, _, rfl, by rw [pushW_short hlong]; exact R3, F3, hs3, ((t2.alloc _).weaken _).trans hO3⟩
end Go.Proofs.Ytpfmkjcngknecaa
