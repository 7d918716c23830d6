/- A log's Append, Reset, Many, Off. -/
import Derived.Test.YtdnoeahhidmkbaaDoorWlChange
import Derived.Deep.RegionWith
namespace Go.Proofs.YtdnoeahhidmkbaaDoor
open Go Go.RowKit
set_option maxRecDepth 100000

namespace wl
def appendOps (n : vd.Name) (s : List UInt8) : List Op1 := [fun d => vd.append d n s, fun d => vd.sync d n]
def append (d : vd.Disk) (l : L) (ls : List (List UInt8)) : vd.Disk × L × Nat := change d l ls (l.many + ls.length) (fun s d => run (appendOps l.name s) d)
def reset (d : vd.Disk) (l : L) (ls : List (List UInt8)) : vd.Disk × L × Nat := change d l ls ls.length (fun s d => write d l.name s)
end wl
section
variable {w : World} {p b g gl : Nat} {d : vd.Disk} {l : wl.L}
theorem wal_many (hg : Lg w g p l) : Calls Tryd.prog 16 #[.pointer (some ⟨g, 0, none⟩)] w (fun e w' => e = .returned (.int .i64 (l.many : Int)) ∧ w' = w) := by
  have q := hg.cell 2 _ rfl
  go_enter Tryd.func16, Tryd.ntmps16
  go_wp2
  go_ret
  exact ⟨rfl, rfl⟩
theorem wal_off (hg : Lg w g p l) : Calls Tryd.prog 17 #[.pointer (some ⟨g, 0, none⟩)] w (fun e w' => e = .returned (.bool l.off) ∧ w' = w) := by
  have q := hg.cell 3 _ rfl
  go_enter Tryd.func17, Tryd.ntmps17
  go_wp2
  go_ret
  exact ⟨rfl, rfl⟩
set_option maxHeartbeats 4000000 in
theorem wal_append1 (s : List UInt8) (hl : Vb w gl [dptr g] 25) (hg : Lg w g p l) (hd : Dk w p b d) (hok : vd.Ok d) (hm : l.name.length ≤ 200) (hs : s.length ≤ 1000000000) :
    Calls Tryd.prog 40 #[.string (crcm.mk s), .pointer (some ⟨gl, 0, none⟩)] w (fun e w' => e = .returned (.int .i64 ((wl.run (wl.appendOps l.name s) d).2 : Nat)) ∧ Dk w' p b (wl.run (wl.appendOps l.name s) d).1 ∧ Apart [p, b] w w') := by
  have hml : l.name.length ≤ maxLen := by unfold maxLen; omega
  have hpl := hd.blk.lt
  have hbl := hd.map.lt
  have hgl := hg.lt
  have hll := hl.lt
  obtain ⟨N, hN⟩ : ∃ N, w.heap.size = N := ⟨_, rfl⟩
  obtain ⟨w1, hw1⟩ : ∃ w1, w.alloc (.cells #[.string (crcm.mk s)] 9) = w1 := ⟨_, rfl⟩
  obtain ⟨xs, hxs⟩ : ∃ xs, xs = [((42, #[.pointer (some ⟨gl, 0, none⟩), .pointer (some ⟨N, 0, none⟩)], fun d => vd.append d l.name s) : Nat × Array Value × wl.Op1),
    (44, #[.pointer (some ⟨gl, 0, none⟩)], fun d => vd.sync d l.name)] := ⟨_, rfl⟩
  obtain ⟨w4, hw4⟩ : ∃ w4, w1.alloc (.cells (xs.map stepV).toArray 87) = w4 := ⟨_, rfl⟩
  have s1 : w1.heap.size = N + 1 := by rw [← hw1, ← hN]; exact Array.size_push _
  have b1 : Below N w w1 := by rw [← hw1, ← hN]; exact (Below.refl _ w).alloc (Nat.le_refl _) _
  have b4 : Below (N + 1) w1 w4 := by rw [← hw4]; exact (Below.refl _ w1).alloc (by omega) _
  have vs1 : Vb w1 N [.string (crcm.mk s)] 9 := by rw [← hw1, ← hN]; exact Vb.new w _ _
  have vx4 : Vb w4 (N + 1) (xs.map stepV) 87 := by have := Vb.new w1 (xs.map stepV) 87; rw [s1, hw4] at this; exact this
  have vs4 : Vb w4 N [.string (crcm.mk s)] 9 := (b4.block _ (by omega)).trans vs1
  have b04 : Below N w w4 := b1.trans (b4.mono (by omega))
  have vg4 : Lg w4 g p l := (b04.block _ (by omega)).trans hg
  have vl4 : Vb w4 gl [dptr g] 25 := (b04.block _ (by omega)).trans hl
  have hd4 : Dk w4 p b d := ⟨(b04.block _ (by omega)).trans hd.blk, by rw [← hN] at b04; exact hd.map.below b04⟩
  have hA : Apart [p, b] w w4 := by rw [← hN] at b04; exact .of_below b04 _
  have hgout : g ∉ [p, b] := log_out hg hd
  have hlout : gl ∉ [p, b] := box_out hl hd
  have hstep : ∀ x ∈ xs, Step w4 p b x := by
    intro x hx
    rw [hxs] at hx
    rcases List.mem_cons.1 hx with rfl | hx
    · exact ⟨enters_any Tryd.func42 (by kernel_rfl) rfl, fun d w' h1 h2 h3 => ⟨vd.ok_append h1 _ s, wal_a11 (vl4.apart h3 hlout) (vg4.apart h3 hgout) (vs4.apart h3 (by simp; omega)) h2 h1 hml hs⟩⟩
    rcases List.mem_cons.1 hx with rfl | hx
    · exact ⟨enters_any Tryd.func44 (by kernel_rfl) rfl, fun d w' h1 h2 h3 => ⟨vd.ok_sync h1 _, wal_a12 (vl4.apart h3 hlout) (vg4.apart h3 hgout) h2 h1 hml⟩⟩
    cases hx
  have hops : xs.map (·.2.2) = wl.appendOps l.name s := by rw [hxs]; rfl
  have hlen : xs.length = 2 := by rw [hxs]; rfl
  have hcall := wal_steps (G := N + 1) xs vx4 (by simp; omega) hstep hd4 hok (by omega)
  rw [hops, hlen] at hcall
  rw [hxs] at hw4
  simp only [List.map_cons, List.map_nil, stepV] at hw4
  clear hops hlen hstep vx4 vl4 vs4 vs1 b4 b1 b04 vg4 hd4 hml hd hg hok hxs hl
  unfold dptr at *
  go_enter Tryd.func40, Tryd.ntmps40
  go_wp2_with fail
  refine hcall.mono ?_
  rintro e w5 ⟨rfl, h1, h2, h3⟩
  go_wp2_with fail
  go_ret
  exact ⟨rfl, h1, hA.trans h2⟩
set_option maxHeartbeats 4000000 in
theorem wal_reset (v : Value) (ls : List (List UInt8)) (hg : Lg w g p l) (hd : Dk w p b d) (hok : vd.Ok d) (hv : Strs w v ls) (hf : (crcm.flat ls).length ≤ 1000000000) (hl : ls.length ≤ 1000000000) (ht : TabAt w) (hm : l.name.length ≤ 200) :
    Calls Tryd.prog 15 #[.pointer (some ⟨g, 0, none⟩), v] w (fun e w' => e = .returned (.int .i64 ((wl.reset d l ls).2.2 : Nat)) ∧ Dk w' p b (wl.reset d l ls).1 ∧ Lg w' g p (wl.reset d l ls).2.1 ∧ Apart [p, b, g] w w') := by
  have hc := wal_change v ls ls.length (fun s d => wl.write d l.name s) 37 #[.pointer (some ⟨g, 0, none⟩)] #[] hg hd hv hf hl ht (enters_any Tryd.func37 (by kernel_rfl) rfl)
    (fun s hs w1 h1 h2 _ => (wal_write s h2 h1 hok hm hs).mono (by rintro e w2 ⟨a, b, c, _⟩; exact ⟨a, b, c⟩))
  rw [show wl.change d l ls ls.length (fun s d => wl.write d l.name s) = wl.reset d l ls from rfl] at hc
  obtain ⟨A, c, rfl, hcells⟩ := hv
  clear hcells hg hd hok hf ht
  go_enter Tryd.func15, Tryd.ntmps15
  go_wp2_with fail
  refine hc.mono ?_
  rintro e w2 ⟨rfl, h1, h2, h3⟩
  go_wp2_with fail
  go_ret
  exact ⟨rfl, h1, h2, h3⟩
set_option maxHeartbeats 4000000 in
theorem wal_append (v : Value) (ls : List (List UInt8)) (hg : Lg w g p l) (hd : Dk w p b d) (hok : vd.Ok d) (hv : Strs w v ls) (hf : (crcm.flat ls).length ≤ 1000000000) (hl : ls.length ≤ 1000000000) (ht : TabAt w) (hm : l.name.length ≤ 200) (hmn : l.many ≤ 1000000000) :
    Calls Tryd.prog 12 #[.pointer (some ⟨g, 0, none⟩), v] w (fun e w' => e = .returned (.int .i64 ((wl.append d l ls).2.2 : Nat)) ∧ Dk w' p b (wl.append d l ls).1 ∧ Lg w' g p (wl.append d l ls).2.1 ∧ Apart [p, b, g] w w') := by
  obtain ⟨W, hW⟩ : ∃ W, w.alloc (.cells #[.pointer (some ⟨g, 0, none⟩)] 25) = W := ⟨_, rfl⟩
  have hb : Below w.heap.size w W := by rw [← hW]; exact (Below.refl _ w).alloc (Nat.le_refl _) _
  have vl : Vb W w.heap.size [dptr g] 25 := by rw [← hW]; exact Vb.new w _ _
  have hpl := hd.blk.lt
  have hbl := hd.map.lt
  have hgW : Lg W g p l := (hb.block _ hg.lt).trans hg
  have hdW : Dk W p b d := ⟨(hb.block _ hpl).trans hd.blk, hd.map.below hb⟩
  have hd2 := hdW.drew
  have hg2 : Lg W.drew g p l := hgW
  have hc := wal_change v ls (l.many + ls.length) (fun s d => wl.run (wl.appendOps l.name s) d) 40 #[] #[.pointer (some ⟨w.heap.size, 0, none⟩)] hg2 hd2 (hv.below hb.drew) hf hl (ht.below hb.drew ht.1) (enters_any Tryd.func40 (by kernel_rfl) rfl)
    (fun s hs w1 h1 h2 h3 => wal_append1 s ((show Vb W.drew _ _ _ from vl).apart h3 (by simp)) h2 h1 hok hm hs)
  rw [show wl.change d l ls (l.many + ls.length) (fun s d => wl.run (wl.appendOps l.name s) d) = wl.append d l ls from rfl] at hc
  obtain ⟨A, c, rfl, hcells⟩ := hv
  have e1 : IntKind.i64.wrap ((l.many : Int) + (ls.length : Int)) = ((l.many + ls.length : Nat) : Int) := by rw [IntKind.wrap_i64]; omega
  obtain ⟨M2, hM2⟩ : ∃ M2, l.many + ls.length = M2 := ⟨_, rfl⟩
  rw [hM2] at hc e1
  have q0 := vl.cell 0 _ rfl
  have q2 := hgW.cell 2 _ rfl
  have hA : Apart [p, b, g] w W.drew := .of_below hb.drew _
  have MK : Hid (∀ w', Apart [] W w' → w'.cell? ⟨w.heap.size, 0, none⟩ = some (.pointer (some ⟨g, 0, none⟩)) ∧ w'.cell? ⟨g, 2, none⟩ = some (.int .i64 (l.many : Int))) := Lib.hid fun _ h => ⟨(vl.apart h (by simp)).cell 0 _ rfl, (hgW.apart h (by simp)).cell 2 _ rfl⟩
  have hX : Apart [] W W.drew := .drew _ _
  clear hcells hg hd hok hf ht vl hgW hdW hd2 hg2 hM2
  unfold dptr at *
  go_enter Tryd.func12, Tryd.ntmps12
  go_wp2_with fail
  clear MK hX
  go_region_with (first | (go_at_call 39; refine hc.mono ?_; rintro e w2 ⟨rfl, h1, h2, h3⟩))
  all_goals (go_wp2; go_ret; exact ⟨rfl, h1, h2, hA.trans h3⟩)
end
end Go.Proofs.YtdnoeahhidmkbaaDoor
