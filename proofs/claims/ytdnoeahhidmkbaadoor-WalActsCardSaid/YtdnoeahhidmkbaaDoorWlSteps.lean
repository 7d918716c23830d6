/- A log's steps, and its closures. -/
import Derived.Test.YtdnoeahhidmkbaaDoorVdCreate
import Derived.Deep.RegionHeld3
namespace Go.Proofs.YtdnoeahhidmkbaaDoor
open Go Go.RowKit
set_option maxRecDepth 100000

namespace wl
structure L where
  name : vd.Name
  many : Nat
  off : Bool
end wl
def lgV (p : Nat) (l : wl.L) : List Value := [dptr p, keyV l.name, .int .i64 (l.many : Int), .bool l.off]
abbrev Lg (w : World) (g p : Nat) (l : wl.L) : Prop := Vb w g (lgV p l) 82
section
variable {w : World} {p b gl g go gs : Nat} {d : vd.Disk} {l : wl.L} {n s : List UInt8}
theorem Dk.drew (h : Dk w p b d) : Dk w.drew p b d := ⟨h.blk, h.map.below ((Below.refl _ w).drew)⟩
theorem box_out {g : Nat} {x : Value} {t : TypeId} (h : Vb w g [x] t) (hd : Dk w p b d) : g ∉ [p, b] := by
  intro hx
  rcases List.mem_cons.1 hx with rfl | hx
  · have h1 := hd.blk
    unfold Vb at h1 h
    rw [h] at h1
    injection h1 with e
    simp [diskV] at e
  · rcases List.mem_cons.1 hx with rfl | hx
    · obtain ⟨es, c, hb, _⟩ := hd.map
      unfold Vb at h
      rw [h] at hb
      cases hb
    · cases hx
theorem log_out {g : Nat} {q : Nat} {l : wl.L} (h : Lg w g q l) (hd : Dk w p b d) : g ∉ [p, b] := by
  intro hx
  rcases List.mem_cons.1 hx with rfl | hx
  · have h1 := hd.blk
    unfold Vb at h1
    unfold Lg Vb at h
    rw [h] at h1
    injection h1 with e
    simp [diskV, lgV] at e
  · rcases List.mem_cons.1 hx with rfl | hx
    · obtain ⟨es, c, hb, _⟩ := hd.map
      unfold Lg Vb at h
      rw [h] at hb
      cases hb
    · cases hx
/-- the delete of a file that need not be there -/
def wl.del (d : vd.Disk) (n : vd.Name) : vd.Disk × Nat := ((vd.delete d n).1, if (vd.delete d n).2 = 3 then 0 else (vd.delete d n).2)
set_option maxHeartbeats 4000000 in
theorem wal_w2 (hl : Vb w gl [dptr g] 25) (hg : Lg w g p l) (ho : Vb w go [keyV n] 9) (hd : Dk w p b d) (hok : vd.Ok d) (hn : n.length ≤ maxLen) :
    Calls Tryd.prog 63 #[.pointer (some ⟨gl, 0, none⟩), .pointer (some ⟨go, 0, none⟩)] w (fun e w' => e = .returned (.int .i64 ((vd.create d n).2 : Nat)) ∧ Dk w' p b (vd.create d n).1 ∧ Apart [p, b] w w') := by
  have q0 := hl.cell 0 _ rfl
  have q1 := hg.cell 0 _ rfl
  have q2 := ho.cell 0 _ rfl
  have hc := vd_create n hd.drew hok hn
  have MK : Hid (∀ w', Apart [p, b] w w' → w'.cell? ⟨gl, 0, none⟩ = some (.pointer (some ⟨g, 0, none⟩)) ∧ w'.cell? ⟨g, 0, none⟩ = some (.pointer (some ⟨p, 0, none⟩)) ∧ w'.cell? ⟨go, 0, none⟩ = some (.string (crcm.mk n))) := Lib.hid fun _ h => ⟨(hl.apart h (box_out hl hd)).cell 0 _ rfl, (hg.apart h (log_out hg hd)).cell 0 _ rfl, (ho.apart h (box_out ho hd)).cell 0 _ rfl⟩
  have hW : Apart [p, b] w w.drew := .drew _ _
  clear hok
  unfold dptr keyV at *
  go_enter Tryd.func63, Tryd.ntmps63
  go_wp2_with fail
  go_region_held3 (fun w' => w'.cell? ⟨gl, 0, none⟩ = some (.pointer (some ⟨g, 0, none⟩)) ∧ w'.cell? ⟨g, 0, none⟩ = some (.pointer (some ⟨p, 0, none⟩)) ∧ w'.cell? ⟨go, 0, none⟩ = some (.string (crcm.mk n))) (exact MK.out _ hW) (first | (go_at_call 64; refine hc.mono ?_; rintro e w2 ⟨rfl, h1, h2⟩; have hW := hW.trans h2))
  all_goals (go_wp2; go_ret; exact ⟨rfl, h1, (Apart.drew _ _).trans h2⟩)
set_option maxHeartbeats 4000000 in
theorem wal_w3 (hl : Vb w gl [dptr g] 25) (hg : Lg w g p l) (ho : Vb w go [keyV n] 9) (hs : Vb w gs [.string (crcm.mk s)] 9) (hd : Dk w p b d) (hok : vd.Ok d) (hn : n.length ≤ maxLen) (hsl : s.length ≤ 1000000000) :
    Calls Tryd.prog 65 #[.pointer (some ⟨gl, 0, none⟩), .pointer (some ⟨go, 0, none⟩), .pointer (some ⟨gs, 0, none⟩)] w (fun e w' => e = .returned (.int .i64 ((vd.append d n s).2 : Nat)) ∧ Dk w' p b (vd.append d n s).1 ∧ Apart [p, b] w w') := by
  have q0 := hl.cell 0 _ rfl
  have q1 := hg.cell 0 _ rfl
  have q2 := ho.cell 0 _ rfl
  have q3 := hs.cell 0 _ rfl
  have hc := vd_append n s hd.drew hok hn hsl
  have MK : Hid (∀ w', Apart [p, b] w w' → w'.cell? ⟨gl, 0, none⟩ = some (.pointer (some ⟨g, 0, none⟩)) ∧ w'.cell? ⟨g, 0, none⟩ = some (.pointer (some ⟨p, 0, none⟩)) ∧ w'.cell? ⟨go, 0, none⟩ = some (.string (crcm.mk n)) ∧ w'.cell? ⟨gs, 0, none⟩ = some (.string (crcm.mk s))) := Lib.hid fun _ h => ⟨(hl.apart h (box_out hl hd)).cell 0 _ rfl, (hg.apart h (log_out hg hd)).cell 0 _ rfl, (ho.apart h (box_out ho hd)).cell 0 _ rfl, (hs.apart h (box_out hs hd)).cell 0 _ rfl⟩
  have hW : Apart [p, b] w w.drew := .drew _ _
  clear hok
  unfold dptr keyV at *
  go_enter Tryd.func65, Tryd.ntmps65
  go_wp2_with fail
  go_region_held3 (fun w' => w'.cell? ⟨gl, 0, none⟩ = some (.pointer (some ⟨g, 0, none⟩)) ∧ w'.cell? ⟨g, 0, none⟩ = some (.pointer (some ⟨p, 0, none⟩)) ∧ w'.cell? ⟨go, 0, none⟩ = some (.string (crcm.mk n)) ∧ w'.cell? ⟨gs, 0, none⟩ = some (.string (crcm.mk s))) (exact MK.out _ hW) (first | (go_at_call 43; refine hc.mono ?_; rintro e w2 ⟨rfl, h1, h2⟩; have hW := hW.trans h2))
  all_goals (go_wp2; go_ret; exact ⟨rfl, h1, (Apart.drew _ _).trans h2⟩)
set_option maxHeartbeats 4000000 in
theorem wal_w4 (hl : Vb w gl [dptr g] 25) (hg : Lg w g p l) (ho : Vb w go [keyV n] 9) (hd : Dk w p b d) (hok : vd.Ok d) (hn : n.length ≤ maxLen) :
    Calls Tryd.prog 66 #[.pointer (some ⟨gl, 0, none⟩), .pointer (some ⟨go, 0, none⟩)] w (fun e w' => e = .returned (.int .i64 ((vd.sync d n).2 : Nat)) ∧ Dk w' p b (vd.sync d n).1 ∧ Apart [p, b] w w') := by
  have q0 := hl.cell 0 _ rfl
  have q1 := hg.cell 0 _ rfl
  have q2 := ho.cell 0 _ rfl
  have hc := vd_sync n hd.drew hok hn
  have MK : Hid (∀ w', Apart [p, b] w w' → w'.cell? ⟨gl, 0, none⟩ = some (.pointer (some ⟨g, 0, none⟩)) ∧ w'.cell? ⟨g, 0, none⟩ = some (.pointer (some ⟨p, 0, none⟩)) ∧ w'.cell? ⟨go, 0, none⟩ = some (.string (crcm.mk n))) := Lib.hid fun _ h => ⟨(hl.apart h (box_out hl hd)).cell 0 _ rfl, (hg.apart h (log_out hg hd)).cell 0 _ rfl, (ho.apart h (box_out ho hd)).cell 0 _ rfl⟩
  have hW : Apart [p, b] w w.drew := .drew _ _
  clear hok
  unfold dptr keyV at *
  go_enter Tryd.func66, Tryd.ntmps66
  go_wp2_with fail
  go_region_held3 (fun w' => w'.cell? ⟨gl, 0, none⟩ = some (.pointer (some ⟨g, 0, none⟩)) ∧ w'.cell? ⟨g, 0, none⟩ = some (.pointer (some ⟨p, 0, none⟩)) ∧ w'.cell? ⟨go, 0, none⟩ = some (.string (crcm.mk n))) (exact MK.out _ hW) (first | (go_at_call 38; refine hc.mono ?_; rintro e w2 ⟨rfl, h1, h2⟩; have hW := hW.trans h2))
  all_goals (go_wp2; go_ret; exact ⟨rfl, h1, (Apart.drew _ _).trans h2⟩)
set_option maxHeartbeats 4000000 in
theorem wal_w5 (hl : Vb w gl [dptr g] 25) (hg : Lg w g p l) (ho : Vb w go [keyV n] 9) (hd : Dk w p b d) (hok : vd.Ok d) (hn : n.length ≤ maxLen) (hm : l.name.length ≤ maxLen) :
    Calls Tryd.prog 67 #[.pointer (some ⟨gl, 0, none⟩), .pointer (some ⟨go, 0, none⟩)] w (fun e w' => e = .returned (.int .i64 ((vd.rename d n l.name).2 : Nat)) ∧ Dk w' p b (vd.rename d n l.name).1 ∧ Apart [p, b] w w') := by
  have q0 := hl.cell 0 _ rfl
  have q1 := hg.cell 0 _ rfl
  have q2 := ho.cell 0 _ rfl
  have q1b := hg.cell 1 _ rfl
  have hc := vd_rename n l.name hd.drew hok hn hm
  have MK : Hid (∀ w', Apart [p, b] w w' → w'.cell? ⟨gl, 0, none⟩ = some (.pointer (some ⟨g, 0, none⟩)) ∧ w'.cell? ⟨g, 0, none⟩ = some (.pointer (some ⟨p, 0, none⟩)) ∧ w'.cell? ⟨go, 0, none⟩ = some (.string (crcm.mk n)) ∧ w'.cell? ⟨g, 1, none⟩ = some (.string (crcm.mk l.name))) := Lib.hid fun _ h => ⟨(hl.apart h (box_out hl hd)).cell 0 _ rfl, (hg.apart h (log_out hg hd)).cell 0 _ rfl, (ho.apart h (box_out ho hd)).cell 0 _ rfl, (hg.apart h (log_out hg hd)).cell 1 _ rfl⟩
  have hW : Apart [p, b] w w.drew := .drew _ _
  clear hok
  unfold dptr keyV at *
  go_enter Tryd.func67, Tryd.ntmps67
  go_wp2_with fail
  go_region_held3 (fun w' => w'.cell? ⟨gl, 0, none⟩ = some (.pointer (some ⟨g, 0, none⟩)) ∧ w'.cell? ⟨g, 0, none⟩ = some (.pointer (some ⟨p, 0, none⟩)) ∧ w'.cell? ⟨go, 0, none⟩ = some (.string (crcm.mk n)) ∧ w'.cell? ⟨g, 1, none⟩ = some (.string (crcm.mk l.name))) (exact MK.out _ hW) (first | (go_at_call 68; refine hc.mono ?_; rintro e w2 ⟨rfl, h1, h2⟩; have hW := hW.trans h2))
  all_goals (go_wp2; go_ret; exact ⟨rfl, h1, (Apart.drew _ _).trans h2⟩)
set_option maxHeartbeats 4000000 in
theorem wal_a11 (hl : Vb w gl [dptr g] 25) (hg : Lg w g p l) (hs : Vb w gs [.string (crcm.mk s)] 9) (hd : Dk w p b d) (hok : vd.Ok d) (hm : l.name.length ≤ maxLen) (hsl : s.length ≤ 1000000000) :
    Calls Tryd.prog 42 #[.pointer (some ⟨gl, 0, none⟩), .pointer (some ⟨gs, 0, none⟩)] w (fun e w' => e = .returned (.int .i64 ((vd.append d l.name s).2 : Nat)) ∧ Dk w' p b (vd.append d l.name s).1 ∧ Apart [p, b] w w') := by
  have q0 := hl.cell 0 _ rfl
  have q1 := hg.cell 0 _ rfl
  have q1b := hg.cell 1 _ rfl
  have q3 := hs.cell 0 _ rfl
  have hc := vd_append l.name s hd.drew hok hm hsl
  have MK : Hid (∀ w', Apart [p, b] w w' → w'.cell? ⟨gl, 0, none⟩ = some (.pointer (some ⟨g, 0, none⟩)) ∧ w'.cell? ⟨g, 0, none⟩ = some (.pointer (some ⟨p, 0, none⟩)) ∧ w'.cell? ⟨g, 1, none⟩ = some (.string (crcm.mk l.name)) ∧ w'.cell? ⟨gs, 0, none⟩ = some (.string (crcm.mk s))) := Lib.hid fun _ h => ⟨(hl.apart h (box_out hl hd)).cell 0 _ rfl, (hg.apart h (log_out hg hd)).cell 0 _ rfl, (hg.apart h (log_out hg hd)).cell 1 _ rfl, (hs.apart h (box_out hs hd)).cell 0 _ rfl⟩
  have hW : Apart [p, b] w w.drew := .drew _ _
  clear hok
  unfold dptr keyV at *
  go_enter Tryd.func42, Tryd.ntmps42
  go_wp2_with fail
  go_region_held3 (fun w' => w'.cell? ⟨gl, 0, none⟩ = some (.pointer (some ⟨g, 0, none⟩)) ∧ w'.cell? ⟨g, 0, none⟩ = some (.pointer (some ⟨p, 0, none⟩)) ∧ w'.cell? ⟨g, 1, none⟩ = some (.string (crcm.mk l.name)) ∧ w'.cell? ⟨gs, 0, none⟩ = some (.string (crcm.mk s))) (exact MK.out _ hW) (first | (go_at_call 43; refine hc.mono ?_; rintro e w2 ⟨rfl, h1, h2⟩; have hW := hW.trans h2))
  all_goals (go_wp2; go_ret; exact ⟨rfl, h1, (Apart.drew _ _).trans h2⟩)
set_option maxHeartbeats 4000000 in
theorem wal_a12 (hl : Vb w gl [dptr g] 25) (hg : Lg w g p l) (hd : Dk w p b d) (hok : vd.Ok d) (hm : l.name.length ≤ maxLen) :
    Calls Tryd.prog 44 #[.pointer (some ⟨gl, 0, none⟩)] w (fun e w' => e = .returned (.int .i64 ((vd.sync d l.name).2 : Nat)) ∧ Dk w' p b (vd.sync d l.name).1 ∧ Apart [p, b] w w') := by
  have q0 := hl.cell 0 _ rfl
  have q1 := hg.cell 0 _ rfl
  have q1b := hg.cell 1 _ rfl
  have hc := vd_sync l.name hd.drew hok hm
  have MK : Hid (∀ w', Apart [p, b] w w' → w'.cell? ⟨gl, 0, none⟩ = some (.pointer (some ⟨g, 0, none⟩)) ∧ w'.cell? ⟨g, 0, none⟩ = some (.pointer (some ⟨p, 0, none⟩)) ∧ w'.cell? ⟨g, 1, none⟩ = some (.string (crcm.mk l.name))) := Lib.hid fun _ h => ⟨(hl.apart h (box_out hl hd)).cell 0 _ rfl, (hg.apart h (log_out hg hd)).cell 0 _ rfl, (hg.apart h (log_out hg hd)).cell 1 _ rfl⟩
  have hW : Apart [p, b] w w.drew := .drew _ _
  clear hok
  unfold dptr keyV at *
  go_enter Tryd.func44, Tryd.ntmps44
  go_wp2_with fail
  go_region_held3 (fun w' => w'.cell? ⟨gl, 0, none⟩ = some (.pointer (some ⟨g, 0, none⟩)) ∧ w'.cell? ⟨g, 0, none⟩ = some (.pointer (some ⟨p, 0, none⟩)) ∧ w'.cell? ⟨g, 1, none⟩ = some (.string (crcm.mk l.name))) (exact MK.out _ hW) (first | (go_at_call 38; refine hc.mono ?_; rintro e w2 ⟨rfl, h1, h2⟩; have hW := hW.trans h2))
  all_goals (go_wp2; go_ret; exact ⟨rfl, h1, (Apart.drew _ _).trans h2⟩)
set_option maxHeartbeats 4000000 in
theorem wal_w1 (hl : Vb w gl [dptr g] 25) (hg : Lg w g p l) (ho : Vb w go [keyV n] 9) (hd : Dk w p b d) (hok : vd.Ok d) (hn : n.length ≤ maxLen) :
    Calls Tryd.prog 61 #[.pointer (some ⟨gl, 0, none⟩), .pointer (some ⟨go, 0, none⟩)] w (fun e w' => e = .returned (.int .i64 ((wl.del d n).2 : Nat)) ∧ Dk w' p b (wl.del d n).1 ∧ Apart [p, b] w w') := by
  have q0 := hl.cell 0 _ rfl
  have q1 := hg.cell 0 _ rfl
  have q2 := ho.cell 0 _ rfl
  have hc := vd_delete n hd.drew hok hn
  obtain ⟨er, her⟩ : ∃ er, (vd.delete d n).2 = er := ⟨_, rfl⟩
  have hres : wl.del d n = ((vd.delete d n).1, if er = 3 then 0 else er) := by rw [← her]; rfl
  rw [her] at hc
  clear her
  have MK : Hid (∀ w', Apart [p, b] w w' → w'.cell? ⟨gl, 0, none⟩ = some (.pointer (some ⟨g, 0, none⟩)) ∧ w'.cell? ⟨g, 0, none⟩ = some (.pointer (some ⟨p, 0, none⟩)) ∧ w'.cell? ⟨go, 0, none⟩ = some (.string (crcm.mk n))) := Lib.hid fun _ h => ⟨(hl.apart h (box_out hl hd)).cell 0 _ rfl, (hg.apart h (log_out hg hd)).cell 0 _ rfl, (ho.apart h (box_out ho hd)).cell 0 _ rfl⟩
  have hW : Apart [p, b] w w.drew := .drew _ _
  clear hok
  unfold dptr keyV at *
  go_enter Tryd.func61, Tryd.ntmps61
  go_wp2_with fail
  go_region_held3 (fun w' => w'.cell? ⟨gl, 0, none⟩ = some (.pointer (some ⟨g, 0, none⟩)) ∧ w'.cell? ⟨g, 0, none⟩ = some (.pointer (some ⟨p, 0, none⟩)) ∧ w'.cell? ⟨go, 0, none⟩ = some (.string (crcm.mk n))) (exact MK.out _ hW) (first | (go_at_call 62; refine hc.mono ?_; rintro e w2 ⟨rfl, h1, h2⟩; have hW := hW.trans h2))
  all_goals (
    by_cases h3 : er = 3
    · have h3i : (er : Int) = 3 := by omega
      have HR := Lib.hid (hres.trans (by rw [if_pos h3]) : wl.del d n = ((vd.delete d n).1, 0))
      clear hres
      go_wp2
      go_ret
      rw [HR.out]
      exact ⟨rfl, h1, (Apart.drew _ _).trans h2⟩
    · have h3i : ¬ (er : Int) = 3 := by omega
      have HR := Lib.hid (hres.trans (by rw [if_neg h3]) : wl.del d n = ((vd.delete d n).1, er))
      clear hres
      go_wp2
      go_ret
      rw [HR.out]
      exact ⟨rfl, h1, (Apart.drew _ _).trans h2⟩)
end
end Go.Proofs.YtdnoeahhidmkbaaDoor
