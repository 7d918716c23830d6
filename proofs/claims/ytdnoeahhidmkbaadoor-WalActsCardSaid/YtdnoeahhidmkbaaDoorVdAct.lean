/- act: what may be done, and the fuse. -/
import Derived.Test.YtdnoeahhidmkbaaDoorVdCrash
namespace Go.Proofs.YtdnoeahhidmkbaaDoor
open Go Go.RowKit Go.Lib
set_option maxRecDepth 100000

namespace vd
def goes (d : Disk) (always : Bool) : Bool := decide (d.left ≠ 1) || (always || decide (d.keep.tmod 2 ≠ 0))
def less (d : Disk) : Disk := { d with left := d.left - 1 }
/-- a disk behind what may have been done -/
def done (d : Disk) (f2 : Files) (always : Bool) : Disk :=
  let d2 := if goes d always then { less d with files := f2 } else less d
  if d.left = 1 then crash d2 d.keep else d2
def doneE (d : Disk) : Nat := if d.left = 1 then 6 else 0
end vd
set_option maxHeartbeats 4000000 in
theorem vd_act {w : World} {p b : Nat} {d : vd.Disk} (f2 : vd.Files) (always : Bool) (F : Nat) (caps : Array Value) (hd : Dk w p b d) (ho : vd.Ok d) (ho2 : vd.Ok { d with files := f2 }) (eg : ∀ args w, (callFunc F args).run Tryd.prog w = .ok (.enter F args) w)
    (hf : ∀ w1, Dk w1 p b (vd.less d) → Apart [p] w w1 → Calls Tryd.prog F caps w1 (fun e w2 => e = .returned (.tuple #[]) ∧ Dk w2 p b { vd.less d with files := f2 } ∧ Apart [p, b] w1 w2)) :
    Calls Tryd.prog 88 #[dptr p, .bool always, .func (.func F) #[] caps] w (fun e w' => e = .returned (.int .i64 (vd.doneE d : Nat)) ∧ Dk w' p b (vd.done d f2 always) ∧ Apart [p, b] w w') := by
  have hpb := hd.ne
  have hpl := hd.blk.lt
  have hbl := hd.map.lt
  obtain ⟨n, hn⟩ : ∃ n, d.left = n := ⟨_, rfl⟩
  have hln := ho.lef
  rw [hn] at hln
  obtain ⟨m, hm⟩ : ∃ m, n - 1 = m := ⟨_, rfl⟩
  obtain ⟨k, hk⟩ : ∃ k, d.keep = k := ⟨_, rfl⟩
  have z4 := hd.blk.free 4
  have q4 : w.cell? ⟨p, 4, none⟩ = some (.int .i64 (n : Int)) := by rw [← hn]; exact hd.blk.cell 4 _ rfl
  have q5 : w.cell? ⟨p, 5, none⟩ = some (.int .i64 k) := by rw [← hk]; exact hd.blk.cell 5 _ rfl
  have e1 : IntKind.i64.wrap ((n : Int) - 1) = (n : Int) - 1 := by rw [IntKind.wrap_i64]; omega
  have e2 : max ((n : Int) - 1) 0 = (m : Int) := by omega
  have hA1 := Apart.setCell w p 4 (.int .i64 (m : Int))
  have hd1 : Dk (w.setCell ⟨p, 4, none⟩ (.int .i64 (m : Int))) p b (vd.less d) := by
    refine ⟨?_, hd.map.apart hA1 (by simp; exact fun e => hpb e.symm)⟩
    have := hd.blk.set 4 (.int .i64 (m : Int))
    rw [← hm, ← hn] at this ⊢
    exact this
  have q5' := hd1.blk.cell 5 _ rfl
  rw [show (vd.less d).keep = k from hk] at q5'
  have hcall := hf _ hd1 hA1
  have hc2 := hA1.mono (T := [p, b]) (by simp)
  obtain ⟨W, hW⟩ : ∃ W, w.setCell ⟨p, 4, none⟩ (.int .i64 (m : Int)) = W := ⟨_, rfl⟩
  unfold dptr
  have ho1 : vd.Ok (vd.less d) := ⟨ho.cap, ho.tot, ho.nod, ho.syn, ho.nam, by show d.left - 1 ≤ _; have := ho.lef; omega⟩
  have ho3 : vd.Ok { vd.less d with files := f2 } := ⟨ho2.cap, ho2.tot, ho2.nod, ho2.syn, ho2.nam, ho1.lef⟩
  have hdone : ∀ D2, D2 = (if vd.goes d always then { vd.less d with files := f2 } else vd.less d) → vd.done d f2 always = if n = 1 then vd.crash D2 k else D2 := by
    rintro D2 rfl
    rw [← hn, ← hk]; rfl
  have hE : vd.doneE d = if n = 1 then 6 else 0 := by rw [← hn]; rfl
  have hgo : vd.goes d always = (decide (n ≠ 1) || (always || decide (k.tmod 2 ≠ 0))) := by rw [← hn, ← hk]; rfl
  have HD := Lib.hid hdone
  have HE := Lib.hid hE
  have HG := Lib.hid hgo
  have HC : Hid (Dk W p b (vd.less d)) := by rw [← hW]; exact Lib.hid hd1
  rw [hW] at hc2 q5' hcall
  have HK3 : Hid (∀ (w2 : World) (f : vd.Files), Dk w2 p b { vd.less d with files := f } → w2.cell? ⟨p, 5, none⟩ = some (.int .i64 k)) := Lib.hid fun w2 f h => by rw [← hk]; exact h.blk.cell 5 _ rfl
  clear hdone hE hgo hd1 hA1 hf hd ho2 ho hn hm hk
  go_enter Tryd.func88, Tryd.ntmps88
  by_cases h1 : n = 1
  · subst h1
    obtain rfl : m = 0 := by omega
    rw [show ((0 : Nat) : Int) = 0 from rfl] at hW
    have hE6 : vd.doneE d = 6 := HE.out
    have HE6 := Lib.hid hE6
    clear hE6
    by_cases hg : (always || decide (k.tmod 2 ≠ 0)) = true
    · have hfin : vd.done d f2 always = vd.crash { vd.less d with files := f2 } k := by
        rw [HD.out _ rfl, if_pos rfl, HG.out, hg, Bool.or_true, if_pos rfl]
      have HF := Lib.hid hfin
      clear hfin
      cases always with
      | true =>
        clear hg
        go_wp2_with fail
        refine hcall.mono ?_
        rintro e w2 ⟨rfl, hd2, hA2⟩
        have q5 := HK3.out _ _ hd2
        go_wp2_with fail
        refine (vd_crash k hd2 ho3).mono ?_
        rintro e w3 ⟨rfl, hd3, hA3⟩
        go_wp2_with fail
        go_ret
        exact ⟨by rw [HE6.out]; rfl, by rw [HF.out]; exact hd3, (hc2.trans hA2).trans hA3⟩
      | false =>
        have hk2 : ¬ k.tmod 2 = 0 := by simpa using hg
        clear hg
        go_wp2_with fail
        refine hcall.mono ?_
        rintro e w2 ⟨rfl, hd2, hA2⟩
        have q5 := HK3.out _ _ hd2
        go_wp2_with fail
        refine (vd_crash k hd2 ho3).mono ?_
        rintro e w3 ⟨rfl, hd3, hA3⟩
        go_wp2_with fail
        go_ret
        exact ⟨by rw [HE6.out]; rfl, by rw [HF.out]; exact hd3, (hc2.trans hA2).trans hA3⟩
    · have hfin : vd.done d f2 always = vd.crash (vd.less d) k := by
        have hg' := Bool.eq_false_iff.2 hg
        rw [HD.out _ rfl, if_pos rfl, HG.out, hg']; rfl
      have HF := Lib.hid hfin
      clear hfin
      cases always with
      | true => exact absurd rfl hg
      | false =>
        have hk2 : k.tmod 2 = 0 := by simpa using hg
        clear hg
        go_wp2_with fail
        refine (vd_crash k HC.out ho1).mono ?_
        rintro e w3 ⟨rfl, hd3, hA3⟩
        go_wp2_with fail
        go_ret
        exact ⟨by rw [HE6.out]; rfl, by rw [HF.out]; exact hd3, hc2.trans hA3⟩
  · have h1i : ¬ (n : Int) = 1 := by omega
    have hE6 : vd.doneE d = 0 := by rw [HE.out, if_neg h1]
    have hfin : vd.done d f2 always = { vd.less d with files := f2 } := by
      rw [HD.out _ rfl, if_neg h1, HG.out, decide_eq_true h1]; rfl
    have HF := Lib.hid hfin
    have HE6 := Lib.hid hE6
    clear hfin hE6
    go_wp2_with fail
    refine hcall.mono ?_
    rintro e w2 ⟨rfl, hd2, hA2⟩
    go_wp2_with fail
    go_ret
    exact ⟨by rw [HE6.out]; rfl, by rw [HF.out]; exact hd2, hc2.trans hA2⟩
end Go.Proofs.YtdnoeahhidmkbaaDoor
