/- Crash: a range over the map of files, each cut down to what may stay. -/
import Derived.Test.YtdnoeahhidmkbaaDoorVdIter
import Derived.Test.YtdnoeahhidmkbaaDoorVdSmall
import Derived.Deep.LoopGhost
import Derived.Lib.Strings
namespace Go.Proofs.YtdnoeahhidmkbaaDoor
open Go Go.RowKit Go.Lib
set_option maxRecDepth 100000

namespace vd
/-- how many bytes behind those that are synced stay -/
def stay (keep : Int) (f : File) : Nat := if 0 ≤ keep then (keep % ((f.1.length - f.2 + 1 : Nat) : Int)).toNat else 0
def trim (keep : Int) (f : File) : File := (f.1.take (f.2 + stay keep f), f.2 + stay keep f)
theorem stay_le (keep : Int) (f : File) : stay keep f ≤ f.1.length - f.2 := by
  unfold stay
  split
  · have h1 := Int.emod_lt_of_pos keep (b := ((f.1.length - f.2 + 1 : Nat) : Int)) (by omega)
    have h2 := Int.emod_nonneg keep (b := ((f.1.length - f.2 + 1 : Nat) : Int)) (by omega)
    omega
  · omega
def mapF (φ : Name → File → File) (M : Files) : Files := M.map fun x => (x.1, φ x.1 x.2)
def crash (d : Disk) (keep : Int) : Disk := { d with files := mapF (fun _ f => trim keep f) d.files, off := true }
structure Ok (d : Disk) : Prop where
  cap : d.cap ≤ 1000000000
  tot : total d.files ≤ d.cap
  nod : (d.files.map (·.1)).Nodup
  syn : ∀ x ∈ d.files, x.2.2 ≤ x.2.1.length
  nam : ∀ x ∈ d.files, x.1.length ≤ 60
  lef : d.left ≤ 9223372036854775807
theorem mapF_names (φ : Name → File → File) (M : Files) : (mapF φ M).map (·.1) = M.map (·.1) := by unfold mapF; rw [List.map_map]; rfl
theorem mapF_id (M : Files) : mapF (fun _ f => f) M = M := by unfold mapF; simp
theorem mapF_put (φ ψ : Name → File → File) (M : Files) (hd : (M.map (·.1)).Nodup) {n : Name} {g : File} (hm : (n, g) ∈ M) (h : ∀ m f, m ≠ n → ψ m f = φ m f) : put (mapF φ M) n (ψ n g) = mapF ψ M := by
  induction M with
  | nil => cases hm
  | cons x r ih =>
    obtain ⟨m, f⟩ := x
    rw [List.map_cons, List.nodup_cons] at hd
    unfold mapF
    rw [List.map_cons, List.map_cons]
    unfold put
    by_cases hmn : m = n
    · subst hmn
      rw [if_pos rfl]
      have : g = f := by
        rcases List.mem_cons.1 hm with e | hx
        · exact (Prod.mk.inj e).2
        · exact absurd (List.mem_map.2 ⟨_, hx, rfl⟩) hd.1
      subst this
      congr 1
      apply List.map_congr_left
      rintro ⟨k, f⟩ hk
      have hne : k ≠ m := fun e => hd.1 (List.mem_map.2 ⟨_, hk, e⟩)
      show (k, φ k f) = (k, ψ k f)
      rw [h k f hne]
    · rw [if_neg hmn]
      have hr : (n, g) ∈ r := by
        rcases List.mem_cons.1 hm with e | hx
        · exact absurd (Prod.mk.inj e).1.symm hmn
        · exact hx
      show (m, φ m f) :: put (mapF φ r) n (ψ n g) = (m, ψ m f) :: mapF ψ r
      rw [ih hd.2 hr, h m f hmn]
theorem mapF_mem (φ : Name → File → File) (M : Files) {n : Name} {g : File} (h : (n, g) ∈ mapF φ M) : ∃ f, (n, f) ∈ M ∧ g = φ n f := by
  unfold mapF at h
  obtain ⟨⟨m, f⟩, hx, e⟩ := List.mem_map.1 h
  cases e
  exact ⟨f, hx, rfl⟩
theorem has_mem {M : Files} {n : Name} {g : File} (h : (n, g) ∈ M) : has M n = true := by
  induction M with
  | nil => cases h
  | cons x r ih =>
    obtain ⟨m, f⟩ := x
    unfold has
    by_cases hmn : m = n
    · rw [if_pos hmn]
    · rw [if_neg hmn]
      rcases List.mem_cons.1 h with e | hx
      · exact absurd (Prod.mk.inj e).1.symm hmn
      · exact ih hx
theorem at_mem {M : Files} (hd : (M.map (·.1)).Nodup) {n : Name} {g : File} (h : (n, g) ∈ M) : at_ M n = g := by
  obtain ⟨j, hj⟩ := List.getElem?_of_mem h
  exact (one_here hd hj g).2.1
theorem total_mapF (φ : Name → File → File) (M : Files) (h : ∀ x ∈ M, (φ x.1 x.2).1.length ≤ x.2.1.length) : total (mapF φ M) ≤ total M := by
  induction M with
  | nil => exact Nat.le_refl _
  | cons x r ih =>
    have h1 := h x (by simp)
    have h2 := ih (fun y hy => h y (by simp [hy]))
    unfold total mapF at *
    simp only [List.map_cons, List.sum_cons] at *
    omega
theorem trim_len (keep : Int) (f : File) : (trim keep f).1.length ≤ f.1.length := by unfold trim; rw [List.length_take]; omega
theorem trim_syn (keep : Int) (f : File) (h : f.2 ≤ f.1.length) : (trim keep f).1.length = (trim keep f).2 := by
  have := stay_le keep f
  unfold trim
  rw [List.length_take]
  show min (f.2 + stay keep f) f.1.length = f.2 + stay keep f
  omega
theorem ok_crash {d : Disk} (h : Ok d) (keep : Int) : Ok (crash d keep) := by
  have hf : (crash d keep).files = mapF (fun _ f => trim keep f) d.files := rfl
  refine ⟨h.cap, ?_, ?_, ?_, ?_, h.lef⟩
  · rw [hf]
    exact Nat.le_trans (total_mapF _ _ (fun x _ => trim_len keep x.2)) h.tot
  · rw [hf, mapF_names]; exact h.nod
  · rintro ⟨n, g⟩ hx
    rw [hf] at hx
    obtain ⟨f, hm, rfl⟩ := mapF_mem _ _ hx
    exact Nat.le_of_eq (trim_syn keep f (h.syn _ hm)).symm
  · rintro ⟨n, g⟩ hx
    rw [hf] at hx
    obtain ⟨f, hm, rfl⟩ := mapF_mem _ _ hx
    exact h.nam (n, f) hm
/-- how many have not come yet -/
def rest (done : Name → Bool) : Files → Nat
  | [] => 0
  | x :: r => (done x.1).toNat.ble 0 |>.toNat.add (rest done r)
theorem rest_cons (done : Name → Bool) (x : Name × File) (r : Files) : rest done (x :: r) = ((done x.1).toNat.ble 0).toNat + rest done r := rfl
theorem rest_le (M : Files) (n : Name) (done : Name → Bool) : rest (fun m => decide (m = n) || done m) M ≤ rest done M := by
  induction M with
  | nil => exact Nat.le_refl _
  | cons x r ih =>
    rw [rest_cons, rest_cons]
    have : ((decide (x.1 = n) || done x.1).toNat.ble 0).toNat ≤ ((done x.1).toNat.ble 0).toNat := by
      cases done x.1 <;> cases decide (x.1 = n) <;> decide
    omega
theorem rest_less {M : Files} {done : Name → Bool} {n : Name} {g : File} (h : (n, g) ∈ M) (hn : done n = false) : rest (fun m => decide (m = n) || done m) M < rest done M := by
  induction M with
  | nil => cases h
  | cons x r ih =>
    have hle := rest_le r n done
    rw [rest_cons, rest_cons]
    obtain ⟨m, f⟩ := x
    rcases List.mem_cons.1 h with e | hx
    · obtain rfl := (Prod.mk.inj e).1
      have h1 : ((decide (n = n) || done n).toNat.ble 0).toNat = 0 := by rw [decide_eq_true rfl]; rfl
      have h2 : ((done n).toNat.ble 0).toNat = 1 := by rw [hn]; rfl
      show ((decide (n = n) || done n).toNat.ble 0).toNat + _ < ((done n).toNat.ble 0).toNat + _
      omega
    · have := ih hx
      have : ((decide (m = n) || done m).toNat.ble 0).toNat ≤ ((done m).toNat.ble 0).toNat := by
        cases done m <;> cases decide (m = n) <;> decide
      show ((decide (m = n) || done m).toNat.ble 0).toNat + _ < ((done m).toNat.ble 0).toNat + _
      omega
end vd
set_option maxHeartbeats 4000000 in
theorem vd_crash {w : World} {p b : Nat} {d : vd.Disk} (keep : Int) (hd : Dk w p b d) (ho : vd.Ok d) :
    Calls Tryd.prog 23 #[dptr p, .int .i64 keep] w (fun e w' => e = .returned (.tuple #[]) ∧ Dk w' p b (vd.crash d keep) ∧ Apart [p, b] w w') := by
  have hpb := hd.ne
  have hpl := hd.blk.lt
  have hbl := hd.map.lt
  have z3 := hd.blk.free 3
  have hA1 : Apart [p] w (w.setCell ⟨p, 3, none⟩ (.bool true)) := Apart.setCell w p 3 _
  have hv1 : Vb (w.setCell ⟨p, 3, none⟩ (.bool true)) p (diskV b { d with off := true }) 76 := hd.blk.set 3 (.bool true)
  have hm1 : FMap (w.setCell ⟨p, 3, none⟩ (.bool true)) b d.files := hd.map.apart hA1 (by simp; exact fun e => hpb e.symm)
  have q3 := hd.blk.cell 3 _ rfl
  have q2 := hv1.cell 2 _ rfl
  obtain ⟨W1, hr, hit, hbl1, hsz⟩ := It.begin hm1 (P := Tryd.prog) Tryd.underlying74 rfl
  unfold dptr
  go_enter Tryd.func23, Tryd.ntmps23
  go_wp2
  have hm2 := hm1.below hbl1
  have hA2 : Apart [p, b] w W1 := (hA1.mono (by simp)).trans (.of_below hbl1 _)
  rw [show (w.setCell ⟨p, 3, none⟩ (.bool true)).heap.size = w.heap.size from by simp [World.setCell]] at hit hbl1 hsz
  have hd1 : Dk W1 p b { d with off := true } := ⟨(hbl1.block p hpl).trans hv1, hm2⟩
  have hsh : Hid (vd.mapF (fun n f => bif (fun _ => false) n then vd.trim keep f else f) d.files = d.files) := Lib.hid (vd.mapF_id _)
  clear hr hbl1 z3 q3 q2 hm1 hv1 hA1 hsz hm2
  have hlt : w.heap.size < W1.heap.size := hit.lt.1
  go_loopg [4] (vd.rest (fun _ => false) d.files) (fun k _ wr => ∃ done, k = vd.rest done d.files ∧ It wr w.heap.size b (vd.mapF (fun n f => bif done n then vd.trim keep f else f) d.files) done ∧ Dk wr p b { d with files := vd.mapF (fun n f => bif done n then vd.trim keep f else f) d.files, off := true } ∧ Apart [p, b] w wr)
  case atStart => exact ⟨fun _ => false, rfl, by rw [hsh.out]; exact hit, by rw [hsh.out]; exact hd1, hA2⟩
  case round =>
    obtain ⟨done, hk, hi, hD, hA⟩ := hrel
    have HK := Lib.hid hk
    clear hk hit hd1 hA2
    rcases hi.step (P := Tryd.prog) 0 with ⟨hall, hrun⟩ | ⟨n, g, w1, hmem, hdn, hrun, hi1, hA1, hs1, hent⟩
    · have he : vd.mapF (fun n f => bif done n then vd.trim keep f else f) d.files = vd.mapF (fun _ f => vd.trim keep f) d.files := by
        unfold vd.mapF
        apply List.map_congr_left
        rintro ⟨n, f⟩ hx
        have := hall (n, bif done n then vd.trim keep f else f) (List.mem_map.2 ⟨_, hx, rfl⟩)
        show (n, bif done n then vd.trim keep f else f) = (n, vd.trim keep f)
        rw [show done n = true from this]; rfl
      rw [he] at hD
      clear he hall hi
      go_wp2
      go_end0
      exact ⟨rfl, hD, hA⟩
    · obtain ⟨f, hf, hg⟩ := vd.mapF_mem _ _ hmem
      rw [hdn] at hg
      obtain rfl : g = f := hg

      have hsyn := ho.syn _ hf
      have hnam : n.length ≤ 60 := ho.nam _ hf
      have htot : g.1.length ≤ vd.total d.files := by
        have := vd.total_del d.files n
        rw [vd.at_mem ho.nod hf] at this
        omega
      have hcap := ho.cap
      have htc := ho.tot
      have hstay := vd.stay_le keep g
      obtain ⟨L, hL⟩ : ∃ L, g.1.length = L := ⟨_, rfl⟩
      obtain ⟨Y, hY⟩ : ∃ Y, g.2 = Y := ⟨_, rfl⟩
      obtain ⟨K, hK⟩ : ∃ K, vd.stay keep g = K := ⟨_, rfl⟩
      have hsz : (crcm.mk g.1).size = L := by rw [crcm.mk_size, hL]
      have hrem : 0 ≤ keep → keep.tmod ((L - Y + 1 : Nat) : Int) = (K : Int) := by
        intro h0
        rw [Int.tmod_eq_emod_of_nonneg h0, ← hK]
        have h2 := Int.emod_nonneg keep (b := ((g.1.length - g.2 + 1 : Nat) : Int)) (by omega)
        unfold vd.stay
        rw [if_pos h0, hL, hY] at *
        omega
      have hk0 : ¬ 0 ≤ keep → K = 0 := by
        intro h0
        rw [← hK]; unfold vd.stay; rw [if_neg h0]
      have htrim : vd.trim keep g = ((g.1.take (Y + K)), Y + K) := by unfold vd.trim; rw [hK, hY]
      rw [show fileV g = .agg #[.string (crcm.mk g.1), .int .i64 (Y : Int)] from by rw [← hY]; rfl] at hrun hent
      rw [keyV] at hrun hent
      simp only [hL, hY, hK] at hsyn htot hstay
      obtain ⟨N, hN⟩ : ∃ N, Y + K = N := ⟨_, rfl⟩
      rw [hN] at htrim
      obtain ⟨Z, hZ⟩ : ∃ Z, L - Y + 1 = Z := ⟨_, rfl⟩
      rw [hZ] at hrem
      have e1 : IntKind.i64.wrap ((L : Int) - (Y : Int)) = (L : Int) - Y := by rw [IntKind.wrap_i64]; omega
      have e2 : IntKind.i64.wrap ((L : Int) - (Y : Int) + 1) = (Z : Int) := by rw [IntKind.wrap_i64]; omega
      have e3 : IntKind.i64.wrap ((Y : Int) + (K : Int)) = (N : Int) := by rw [IntKind.wrap_i64]; omega
      have hex : (crcm.mk g.1).extract 0 N = crcm.mk (g.1.take N) := by rw [Lib.extract_eq]; show (⟨((crcm.mk g.1).data.toList.drop 0 |>.take (N - 0)).toArray⟩ : ByteArray) = _; rw [crcm.mk_toList]; rfl
      have hmin : min N L = N := by omega
      have hsz2 : (crcm.mk (g.1.take N)).size = N := by rw [crcm.mk_size, List.length_take]; omega
      obtain ⟨M, hM⟩ : ∃ M, vd.mapF (fun n f => bif done n then vd.trim keep f else f) d.files = M := ⟨_, rfl⟩
      obtain ⟨M', hM'⟩ : ∃ M', vd.mapF (fun m f => bif (decide (m = n) || done m) then vd.trim keep f else f) d.files = M' := ⟨_, rfl⟩
      have hput : vd.put M n (g.1.take N, N) = M' := by
        rw [← hM, ← hM', ← htrim]
        have := vd.mapF_put (fun n f => bif done n then vd.trim keep f else f) (fun m f => bif (decide (m = n) || done m) then vd.trim keep f else f) d.files ho.nod hf (fun m f hne => by rw [decide_eq_false hne]; rfl)
        rw [decide_eq_true rfl] at this
        exact this
      have hatM : vd.at_ M n = g := vd.at_mem (by rw [← hM, vd.mapF_names]; exact ho.nod) (by rw [← hM]; exact hmem)
      have hhas : vd.has M n = true := vd.has_mem (by rw [← hM]; exact hmem)
      have htM : vd.total M ≤ d.cap := by
        rw [← hM]
        refine Nat.le_trans (vd.total_mapF _ _ (fun x _ => ?_)) htc
        cases done x.1
        · exact Nat.le_refl _
        · exact vd.trim_len keep x.2
      rw [hM] at hi hi1 hD hmem
      have hD1 : Dk w1 p b { d with files := M, off := true } := hD.apart hA1 (by simp; omega) (by simp; omega)
      have hless := vd.rest_less hf hdn
      have hlen : (g.1.take N).length = N := by rw [List.length_take]; omega
      have HL := Lib.hid hless
      have HLen := Lib.hid hlen
      have HP := Lib.hid hput
      have HAt := Lib.hid hatM
      have HH := Lib.hid hhas
      have HM' := Lib.hid hM'
      clear htrim hf hmem hdn hY hK hM hM' hput hatM hhas hlen hless hL
      have hfin : Calls Tryd.prog 52 #[.pointer (some ⟨p, 0, none⟩), .string (crcm.mk n), .agg #[.string (crcm.mk (g.1.take N)), .int .i64 (N : Int)], .bool false] (w1.alloc (.cells #[.string (crcm.mk (g.1.take N)), .int .i64 (N : Int)] 96)) (fun e w' => e = .returned (.tuple #[]) ∧ It w' w.heap.size b M' (fun m => decide (m = n) || done m) ∧ Dk w' p b { d with files := M', off := true } ∧ Apart [p, b] w w') := by
        have hb2 : Below w1.heap.size w1 (w1.alloc (.cells #[.string (crcm.mk (g.1.take N)), .int .i64 (N : Int)] 96)) := (Below.refl _ w1).alloc (Nat.le_refl _) _
        have hA2 := Apart.of_below hb2 []
        have hr := hi1.lt
        refine (vd_set (d := { d with files := M, off := true }) n (g.1.take N, N) false (hD1.apart hA2 (by simp) (by simp)) ?_ hcap htM ?_ (fun h => by cases h)).mono ?_
        · unfold maxLen; omega
        · show vd.total M + (g.1.take N).length ≤ (vd.at_ M n).1.length + d.cap
          rw [HAt.out, HLen.out]
          have : g.1.length = L := by rw [← hsz, crcm.mk_size]
          omega
        · rintro e w3 ⟨rfl, h1, h2, h3⟩
          have h4 : vd.setF M n (g.1.take N, N) false = M' := HP.out
          have h5 := (hi1.apart hA2 (by simp) (by simp)).stays h2 (by simp; omega) HH.out (h3 HH.out rfl) (by rw [HP.out]; have := h1.map; rw [h4] at this; exact this)
          rw [HP.out] at h5
          rw [h4] at h1
          refine ⟨rfl, h5, h1, ?_⟩
          have hA3 : Apart [p, b] w w1 := hA.then hA1 (by simp) (by simp)
          exact hA3.then ((hA2.mono (T := [p, b]) (by simp)).trans h2) (by simp) (by simp)
      by_cases h0 : 0 ≤ keep
      · have hr := hrem h0
        clear hrem hk0
        go_wp2_with fail
        refine hfin.mono ?_
        rintro e w3 ⟨rfl, h1, h2, h3⟩
        go_wp2_with fail
        go_roundg (vd.rest (fun m => decide (m = n) || done m) d.files)
        case rel => exact ⟨fun m => decide (m = n) || done m, rfl, by rw [HM'.out]; exact h1, by rw [HM'.out]; exact h2, h3⟩
        case measure => rw [HK.out]; exact HL.out
      · obtain rfl := hk0 h0
        obtain rfl : Y = N := by omega
        clear hrem hk0
        go_wp2_with fail
        refine hfin.mono ?_
        rintro e w3 ⟨rfl, h1, h2, h3⟩
        go_wp2_with fail
        go_roundg (vd.rest (fun m => decide (m = n) || done m) d.files)
        case rel => exact ⟨fun m => decide (m = n) || done m, rfl, by rw [HM'.out]; exact h1, by rw [HM'.out]; exact h2, h3⟩
        case measure => rw [HK.out]; exact HL.out
end Go.Proofs.YtdnoeahhidmkbaaDoor
