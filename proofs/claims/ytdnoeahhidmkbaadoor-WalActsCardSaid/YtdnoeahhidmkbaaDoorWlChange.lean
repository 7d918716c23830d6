/- change: what is done with the bytes of texts. -/
import Derived.Test.YtdnoeahhidmkbaaDoorWlWrite
import Derived.Test.YtdnoeahhidmkbaaDoorWlBytes
namespace Go.Proofs.YtdnoeahhidmkbaaDoor
open Go Go.RowKit
set_option maxRecDepth 100000

namespace wl
/-- a log behind a call that answered something -/
def told (l : L) (e many : Nat) : L := if e = 0 then { l with many := many } else if e = 2 then l else { l with off := true }
def change (d : vd.Disk) (l : L) (ls : List (List UInt8)) (many : Nat) (op : List UInt8 → Op1) : vd.Disk × L × Nat :=
  if l.off then (d, l, 6) else if (bytes ls).2 ≠ 0 then (d, l, (bytes ls).2)
  else ((op (bytes ls).1 d).1, told l (op (bytes ls).1 d).2 many, (op (bytes ls).1 d).2)
end wl
set_option maxHeartbeats 4000000 in
theorem wal_change {w : World} {p b g : Nat} {d : vd.Disk} {l : wl.L} (v : Value) (ls : List (List UInt8)) (many : Nat) (op : List UInt8 → wl.Op1) (F : Nat) (first caps : Array Value)
    (hg : Lg w g p l) (hd : Dk w p b d) (hv : Strs w v ls) (hf : (crcm.flat ls).length ≤ 1000000000) (hl : ls.length ≤ 1000000000) (ht : TabAt w)
    (eg : ∀ args w, (callFunc F args).run Tryd.prog w = .ok (.enter F args) w)
    (hop : ∀ s, s.length ≤ 1000000000 → ∀ w1, Dk w1 p b d → Lg w1 g p l → Apart [] w w1 → Calls Tryd.prog F (first ++ #[.string (crcm.mk s)] ++ caps) w1 (fun e w2 => e = .returned (.int .i64 ((op s d).2 : Nat)) ∧ Dk w2 p b (op s d).1 ∧ Apart [p, b] w1 w2)) :
    Calls Tryd.prog 39 #[.pointer (some ⟨g, 0, none⟩), v, .int .i64 (many : Int), .func (.func F) first caps] w (fun e w' => e = .returned (.int .i64 ((wl.change d l ls many op).2.2 : Nat)) ∧ Dk w' p b (wl.change d l ls many op).1 ∧ Lg w' g p (wl.change d l ls many op).2.1 ∧ Apart [p, b, g] w w') := by
  have hgo : g ∉ [p, b] := log_out hg hd
  have hpg : p ≠ g := fun e => hgo (by simp [e])
  have hbg : b ≠ g := fun e => hgo (by simp [e])
  have hby := wal_bytes v ls w hv hf hl ht
  have hfl : (wl.bytes ls).2 = 0 → (wl.bytes ls).1.length ≤ 1000000000 := by
    unfold wl.bytes
    split
    · intro _; exact hf
    · intro h; cases h
  obtain ⟨B, hB⟩ : ∃ B, wl.bytes ls = B := ⟨_, rfl⟩
  rw [hB] at hby hfl
  obtain ⟨s, e0⟩ := B
  have hres : wl.change d l ls many op = if l.off then (d, l, 6) else if e0 ≠ 0 then (d, l, e0) else ((op s d).1, wl.told l (op s d).2 many, (op s d).2) := by
    unfold wl.change; rw [hB]
  have HR := Lib.hid hres
  have HFL := Lib.hid hfl
  have HOP := Lib.hid hop
  have HG := Lib.hid hg
  have HD := Lib.hid hd
  have hgl := hg.lt
  have q3 := hg.cell 3 _ rfl
  have hdk : ∀ w', Below w.heap.size w w' → Dk w' p b d ∧ Lg w' g p l := fun w' h => ⟨⟨(h.block _ hd.blk.lt).trans hd.blk, hd.map.below h⟩, (h.block _ hgl).trans hg⟩
  have HK := Lib.hid hdk
  clear hres hB hfl hop hg hd hv hf hl ht hdk
  go_enter Tryd.func39, Tryd.ntmps39
  obtain ⟨o, ho⟩ : ∃ o, l.off = o := ⟨_, rfl⟩
  rw [ho] at q3
  have HO := Lib.hid ho
  clear ho
  cases o with
  | true =>
    go_wp2_with fail
    go_ret
    rw [HR.out, HO.out]
    exact ⟨rfl, HD.out, HG.out, .refl _ _⟩
  | false =>
    by_cases h0 : e0 = 0
    · subst h0
      go_wp2_with fail
      refine hby.mono ?_
      rintro e w1 ⟨rfl, hb1⟩
      obtain ⟨hd1, hg1⟩ := HK.out w1 hb1
      have hcall := HOP.out s (HFL.out (by first | rfl | trivial)) w1 hd1 hg1 (.of_below hb1 _)
      obtain ⟨D2, hD2⟩ : ∃ D2, (op s d).1 = D2 := ⟨_, rfl⟩
      obtain ⟨e2, he2⟩ : ∃ e2, (op s d).2 = e2 := ⟨_, rfl⟩
      rw [hD2, he2] at hcall
      have hres2 : wl.change d l ls many op = (D2, wl.told l e2 many, e2) := by rw [HR.out, HO.out, ← hD2, ← he2]; rfl
      have HR2 := Lib.hid hres2
      have HG1 := Lib.hid hg1
      clear hres2 hD2 he2 hd1 hg1
      go_wp2_with fail
      refine hcall.mono ?_
      rintro e w2 ⟨rfl, hd2, hA2⟩
      have hg2 := HG1.out.apart hA2 hgo
      have r2 := hg2.cell 2 _ rfl
      have r3 := hg2.cell 3 _ rfl
      have z2 := hg2.free 2
      have z3 := hg2.free 3
      have hA02 : Apart [p, b, g] w w2 := (Apart.of_below hb1 _).trans (hA2.mono (by simp))
      have HD2 := Lib.hid hd2
      have HG2 := Lib.hid hg2
      clear hd2 hg2 hcall
      by_cases h1 : e2 = 0
      · subst h1
        go_wp2_with fail
        go_ret
        rw [HR2.out]
        have hA3 := Apart.setCell w2 g 2 (.int .i64 (many : Int))
        exact ⟨rfl, HD2.out.apart hA3 (by simpa using hpg) (by simpa using hbg), HG2.out.set 2 _, hA02.trans (hA3.mono (by simp))⟩
      · have h1i : ¬ (e2 : Int) = 0 := by omega
        by_cases h2 : e2 = 2
        · subst h2
          go_wp2_with fail
          go_ret
          rw [HR2.out]
          exact ⟨rfl, HD2.out, HG2.out, hA02⟩
        · have h2i : ¬ (e2 : Int) = 2 := by omega
          go_wp2_with fail
          go_ret
          rw [HR2.out]
          have hA3 := Apart.setCell w2 g 3 (.bool true)
          refine ⟨rfl, HD2.out.apart hA3 (by simpa using hpg) (by simpa using hbg), ?_, hA02.trans (hA3.mono (by simp))⟩
          show Lg _ g p (wl.told l e2 many)
          unfold wl.told
          rw [if_neg h1, if_neg h2]
          exact HG2.out.set 3 _
    · have h0i : ¬ (e0 : Int) = 0 := by omega
      go_wp2_with fail
      refine hby.mono ?_
      rintro e w1 ⟨rfl, hb1⟩
      obtain ⟨hd1, hg1⟩ := HK.out w1 hb1
      go_wp2_with fail
      go_ret
      rw [HR.out, HO.out, if_neg (by simp), if_pos h0]
      exact ⟨rfl, hd1, hg1, .of_below hb1 _⟩
end Go.Proofs.YtdnoeahhidmkbaaDoor
