/- Strs, VdSmall, VdCrash, VdAct: one behind the other. -/
import Derived.Test.YtmcibggjolckoaaGreatDoorG1
import Derived.WalkKit
import Derived.WalkSpells
import Derived.ProofKit
import Derived.SliceStrings
import Derived.Test.YtmcibggjolckoaaGreatDoorG2
import Derived.Deep.LoopGhost
import Derived.Lib.Strings
namespace Go.Proofs.YtmcibggjolckoaaGreatDoor
open Go Go.RowKit Go.ChangeShapes
set_option maxRecDepth 100000

/-- the slice v holds these texts -/
def Strs (w : World) (v : Value) (ls : List (List UInt8)) : Prop :=
  ∃ A c, v = .slice A ls.length c ∧ ∀ k, k < ls.length → ∃ ad, A = some ad ∧ w.cell? (ad.add k) = some (.string (crcm.mk (ls.getD k [])))
theorem Strs.below {w w' : World} {v : Value} {ls : List (List UInt8)} (h : Strs w v ls) (hb : Below w.heap.size w w') : Strs w' v ls := by
  obtain ⟨A, c, e, hc⟩ := h
  exact ⟨A, c, e, fun k hk => by obtain ⟨ad, e2, h2⟩ := hc k hk; exact ⟨ad, e2, cell_later hb h2⟩⟩
theorem mk_toL (l : List UInt8) : (crcm.mk l).toList = l := by rw [ByteArray.toList_eq]; rfl
/-- and none of them, nor their number, is beyond what an int can say -/
def Texts (w : World) (v : Value) (ls : List (List UInt8)) : Prop := Strs w v ls ∧ ls.length ≤ maxLen ∧ (∀ t ∈ ls, t.length ≤ maxLen) ∧ ∃ A c, v = .slice A ls.length c ∧ ls.length ≤ c
theorem Texts.below {w w' : World} {v : Value} {ls : List (List UInt8)} (h : Texts w v ls) (hb : Below w.heap.size w w') : Texts w' v ls := ⟨h.1.below hb, h.2⟩

theorem texts_of_reading {H : Type} {enc : TypeId × Value → H} {P : Program} {w : World} {base : Nat} {held : Bool} {t e : TypeId} {a : Option Addr} {len cap : Nat} {d : DataW H} {ps : List MemPlace}
    (ht : P.underlying t = some (.slice e)) (he : P.underlying e = some .string) (hc : P.cellsOf e = 1) (h : DataW.Trod enc P w base (fun _ => true) held t (.slice a len cap) d ps) :
    ∃ ls, Texts w (.slice a len cap) ls := by
  obtain ⟨fuel, hf⟩ := h
  rcases open_strings ht he hc hf with ⟨hcs, _⟩ | ⟨a', len', cap', ss, hcs, _, hl, hm, hz, _, hcell, hws⟩
  · obtain ⟨rfl, rfl, rfl⟩ : a = none ∧ len = 0 ∧ cap = 0 := by simpa [Value.cells] using hcs
    exact ⟨[], ⟨none, 0, rfl, fun k hk => by simp at hk⟩, Nat.zero_le _, (fun t ht => by cases ht), none, 0, rfl, Nat.le_refl _⟩
  · obtain ⟨rfl, rfl, rfl⟩ : a = some a' ∧ len = len' ∧ cap = cap' := by simpa [Value.cells] using hcs
    simp only [if_true] at hz
    have hlen : ((ss.take len).map fun s => s.data.toList).length = len := by rw [List.length_map, List.length_take]; omega
    have hk : ∀ k, k < len → ∃ s, ss[k]? = some s := fun k hk => ⟨ss[k]'(by omega), List.getElem?_eq_getElem (by omega)⟩
    refine ⟨(ss.take len).map fun s => s.data.toList, ⟨some a', cap, by rw [hlen], fun k hkl => ⟨a', rfl, ?_⟩⟩, by rw [hlen]; omega, ?_, some a', cap, by rw [hlen], by rw [hlen]; exact hl⟩
    · rw [hlen] at hkl
      obtain ⟨s, hs⟩ := hk k hkl
      have h1 := hcell k (by omega)
      have e1 : ss.getD k ByteArray.empty = s := by rw [List.getD_eq_getElem?_getD, hs]; rfl
      have e2 : ((ss.take len).map fun s => s.data.toList).getD k [] = s.data.toList := by
        rw [List.getD_eq_getElem?_getD, List.getElem?_map, List.getElem?_take_of_lt hkl, hs]; rfl
      rw [h1, e1, e2, crcm.mk_of]
    · intro t ht
      obtain ⟨s, hs, rfl⟩ := List.mem_map.1 ht
      have := hws s (List.mem_of_mem_take hs)
      rw [crcm.size_len]
      exact this
end Go.Proofs.YtmcibggjolckoaaGreatDoor
namespace Go.Proofs.YtmcibggjolckoaaGreatDoor
open Go Go.RowKit Go.Lib
set_option maxRecDepth 100000

theorem vret_of {a b : Value} (h : a = b) : Ending.returned a = Ending.returned b := by rw [h]
def dptr (p : Nat) : Value := .pointer (some ⟨p, 0, none⟩)
theorem vd_new (c : Nat) (w : World) (hc : c ≤ 1000000000) :
    Calls Tryz.prog 31 #[.int .i64 (c : Int)] w (fun e w' => ∃ p b, e = .returned (dptr p) ∧ w.heap.size ≤ p ∧ w.heap.size ≤ b ∧ Dk w' p b ⟨c, [], false, 0, 0⟩ ∧ Below w.heap.size w w') := by
  have e1 : max (c : Int) 0 = c := by omega
  have hmk := run_makeMap (P := Tryz.prog) 88 w
  go_enter Tryz.func31, Tryz.ntmps31
  go_wp2_with fail
  go_ret
  have hb1 : Below w.heap.size w (w.alloc (.map #[] 0)) := (Below.refl _ w).alloc (Nat.le_refl _) _
  have hsz : (w.alloc (.map #[] 0)).heap.size = w.heap.size + 1 := Array.size_push _
  have hv := Vb.new (w.alloc (.map #[] 0)) (diskV w.heap.size ⟨c, [], false, 0, 0⟩) 90
  have hb2 := (Below.refl (w.alloc (.map #[] 0)).heap.size (w.alloc (.map #[] 0))).alloc (Nat.le_refl _) (.cells (diskV w.heap.size ⟨c, [], false, 0, 0⟩).toArray 90)
  have hm := (FMap.made w).below hb2
  rw [hsz] at hv
  exact ⟨w.heap.size + 1, w.heap.size, rfl, by omega, by omega, ⟨hv, hm⟩, hb1.trans (hb2.mono (by omega))⟩
theorem vd_on {w : World} {p b : Nat} {d : vd.Disk} (hd : Dk w p b d) :
    Calls Tryz.prog 40 #[dptr p] w (fun e w' => e = .returned (.tuple #[]) ∧ Dk w' p b { d with off := false, left := 0 } ∧ Apart [p] w w') := by
  have q := hd.blk.cell 3 _ rfl
  have q4 := hd.blk.cell 4 _ rfl
  have z := hd.blk.free 3
  have z4 := hd.blk.free 4
  have hpb := hd.ne
  have h1 := Apart.setCell w p 3 (.bool false)
  have h2 := Apart.setCell (w.setCell ⟨p, 3, none⟩ (.bool false)) p 4 (.int .i64 0)
  have hA := h1.trans h2
  have hb := (hd.blk.set 3 (.bool false)).set 4 (.int .i64 0)
  have hm := hd.map.apart hA (by simp; exact fun e => hpb e.symm)
  unfold dptr
  go_enter Tryz.func40, Tryz.ntmps40
  go_wp2
  go_end0
  exact ⟨rfl, ⟨hb, hm⟩, hA⟩
theorem vd_fuse {w : World} {p b : Nat} {d : vd.Disk} (hd : Dk w p b d) (n k : Int) :
    Calls Tryz.prog 39 #[dptr p, .int .i64 n, .int .i64 k] w (fun e w' => e = .returned (.tuple #[]) ∧ Dk w' p b { d with left := (max n 0).toNat, keep := k } ∧ Apart [p] w w') := by
  have q := hd.blk.cell 4 _ rfl
  have q4 := hd.blk.cell 5 _ rfl
  have z := hd.blk.free 4
  have z4 := hd.blk.free 5
  have hpb := hd.ne
  obtain ⟨m, hm⟩ : ∃ m, m = (max n 0).toNat := ⟨_, rfl⟩
  have hm2 : max n 0 = (m : Int) := by omega
  have h1 := Apart.setCell w p 4 (.int .i64 (m : Int))
  have h2 := Apart.setCell (w.setCell ⟨p, 4, none⟩ (.int .i64 (m : Int))) p 5 (.int .i64 k)
  have hA := h1.trans h2
  have hb := (hd.blk.set 4 (.int .i64 (m : Int))).set 5 (.int .i64 k)
  have hmm := hd.map.apart hA (by simp; exact fun e => hpb e.symm)
  rw [← hm]
  clear hm
  unfold dptr
  go_enter Tryz.func39, Tryz.ntmps39
  go_wp2
  go_end0
  exact ⟨rfl, ⟨hb, hmm⟩, hA⟩

namespace vd
def good (s : Name) : Bool := decide (s ≠ []) && decide (s.length ≤ 60)
def nameErr (off : Bool) (l : List Name) : Nat := if off then 6 else if l.all good then 0 else 1
end vd
theorem vd_named {w : World} {p b : Nat} {d : vd.Disk} (hd : Dk w p b d) (v : Value) (l : List vd.Name) (hv : Strs w v l) (hl : l.length ≤ 1000) (hs : ∀ x ∈ l, x.length ≤ maxLen) :
    Calls Tryz.prog 89 #[dptr p, v] w (fun e w' => e = .returned (.int .i64 (vd.nameErr d.off l : Nat)) ∧ w' = w) := by
  obtain ⟨A, c, rfl, hcells⟩ := hv
  have q := hd.blk.cell 3 _ rfl
  have hsn : ∀ k, k < l.length → l.take (k + 1) = l.take k ++ [l.getD k []] := fun k h => by rw [List.take_add_one, List.getD_eq_getElem?_getD, List.getElem?_eq_getElem h]; rfl
  have hin : ∀ k, k < l.length → l.getD k [] ∈ l := fun k h => by rw [List.getD_eq_getElem?_getD, List.getElem?_eq_getElem h]; exact List.getElem_mem h
  obtain ⟨n, hn⟩ : ∃ n, l.length = n := ⟨_, rfl⟩
  have htk : l.take n = l := by rw [← hn]; exact List.take_length
  rw [hn] at hcells hsn hin hl ⊢
  have HC := Lib.hid hcells
  have HIN := Lib.hid hin
  have HSN := Lib.hid hsn
  have HTK := Lib.hid htk
  have HS := Lib.hid hs
  clear hcells hin hsn htk hs hn
  unfold dptr
  go_enter Tryz.func89, Tryz.ntmps89
  cases ho : d.off with
  | true =>
    rw [ho] at q
    go_wp2_with fail
    go_ret
    exact ⟨rfl, rfl⟩
  | false =>
    rw [ho] at q
    clear ho
    go_wp2_with fail
    go_loop [13] (fun i => ∃ k : Nat, k ≤ n ∧ i = .int .i64 k ∧ (l.take k).all vd.good = true) (fun i => n - (intOf i).toNat)
    case atStart => exact ⟨0, Nat.zero_le _, rfl, rfl⟩
    case round =>
      obtain ⟨k, hk, rfl, hall⟩ := hrel
      have HALL := Lib.hid hall
      clear hall
      by_cases hlt : k < n
      · obtain ⟨ad, rfl, c0⟩ := HC.out k hlt
        have hs := HSN.out k hlt
        have hmem := HIN.out k hlt
        obtain ⟨t, ht⟩ : ∃ t, l.getD k [] = t := ⟨_, rfl⟩
        rw [ht] at c0 hs hmem
        have hlen := HS.out t hmem
        unfold maxLen at hlen
        obtain ⟨N, hN⟩ : ∃ N, t.length = N := ⟨_, rfl⟩
        have hsz : (crcm.mk t).size = N := by rw [crcm.mk_size, hN]
        rw [hN] at hlen
        have hie : (crcm.mk t).toList.isEmpty = t.isEmpty := by rw [mk_toL]
        by_cases hg : vd.good t = true
        · have hne : t.isEmpty = false := by
            cases t with
            | nil => revert hg; decide
            | cons x r => rfl
          rw [hne] at hie
          clear hne
          have h60 : N ≤ 60 := by
            unfold vd.good at hg
            rw [Bool.and_eq_true, decide_eq_true_iff, decide_eq_true_iff, hN] at hg
            exact hg.2
          have HG := Lib.hid hg
          have HSS := Lib.hid hs
          clear hg hs ht hN
          go_wp2
          go_round
          case rel => exact ⟨k + 1, by omega, by go_num, by rw [HSS.out, List.all_append, HALL.out, List.all_cons, HG.out]; rfl⟩
          case measure => simp [intOf]; omega
        · have hno : l.all vd.good = false := by
            rw [List.all_eq_false]
            exact ⟨t, hmem, hg⟩
          have HNO := Lib.hid hno
          by_cases hne : t = []
          · rw [hne, show ([] : List UInt8).isEmpty = true from rfl, ← hne] at hie
            clear hg hs ht hN hno hne
            go_wp2
            go_ret
            exact ⟨vret_of (by unfold vd.nameErr; rw [HNO.out]; rfl), rfl⟩
          · have h60 : 60 < N := by
              unfold vd.good at hg
              rw [Bool.and_eq_true, decide_eq_true_iff, decide_eq_true_iff, hN] at hg
              rcases Nat.lt_or_ge 60 N with h | h
              · exact h
              · exact absurd ⟨hne, h⟩ hg
            have hni : t.isEmpty = false := by
              cases t with
              | nil => exact absurd rfl hne
              | cons x r => rfl
            rw [hni] at hie
            clear hg hs ht hN hno hni hne
            go_wp2
            go_ret
            exact ⟨vret_of (by unfold vd.nameErr; rw [HNO.out]; rfl), rfl⟩
      · obtain rfl : k = n := by omega
        have hall := HALL.out
        rw [HTK.out] at hall
        have HALL2 := Lib.hid hall
        clear hall
        go_wp2
        go_ret
        exact ⟨vret_of (by unfold vd.nameErr; rw [HALL2.out]; rfl), rfl⟩
end Go.Proofs.YtmcibggjolckoaaGreatDoor
namespace Go.Proofs.YtmcibggjolckoaaGreatDoor
open Go Go.RowKit Go.Lib
set_option maxRecDepth 100000

namespace vd
/-- how many bytes behind those that are synced stay -/
def stay (keep : Int) (f : File) : Nat := if 0 ≤ keep then (keep % ((f.1.length - f.2 + 1 : Nat) : Int)).toNat else 0
def trim (keep : Int) (f : File) : File := (f.1.take (f.2 + stay keep f), f.2 + stay keep f)
theorem stay_le (keep : Int) (f : File) : stay keep f ≤ f.1.length - f.2 := by
  unfold stay
  split
  · have h1 := Int.emod_lt_of_pos keep (b := ((f.1.length - f.2 + 1 : Nat) : Int)) (by omega)
    have h2 := Int.emod_nonneg keep (b := ((f.1.length - f.2 + 1 : Nat) : Int)) (by omega)
    omega
  · omega
def mapF (φ : Name → File → File) (M : Files) : Files := M.map fun x => (x.1, φ x.1 x.2)
def crash (d : Disk) (keep : Int) : Disk := { d with files := mapF (fun _ f => trim keep f) d.files, off := true }
structure Ok (d : Disk) : Prop where
  cap : d.cap ≤ 1000000000
  tot : total d.files ≤ d.cap
  nod : (d.files.map (·.1)).Nodup
  syn : ∀ x ∈ d.files, x.2.2 ≤ x.2.1.length
  nam : ∀ x ∈ d.files, x.1.length ≤ 60
  lef : d.left ≤ 9223372036854775807
theorem mapF_names (φ : Name → File → File) (M : Files) : (mapF φ M).map (·.1) = M.map (·.1) := by unfold mapF; rw [List.map_map]; rfl
theorem mapF_id (M : Files) : mapF (fun _ f => f) M = M := by unfold mapF; simp
theorem mapF_put (φ ψ : Name → File → File) (M : Files) (hd : (M.map (·.1)).Nodup) {n : Name} {g : File} (hm : (n, g) ∈ M) (h : ∀ m f, m ≠ n → ψ m f = φ m f) : put (mapF φ M) n (ψ n g) = mapF ψ M := by
  induction M with
  | nil => cases hm
  | cons x r ih =>
    obtain ⟨m, f⟩ := x
    rw [List.map_cons, List.nodup_cons] at hd
    unfold mapF
    rw [List.map_cons, List.map_cons]
    unfold put
    by_cases hmn : m = n
    · subst hmn
      rw [if_pos rfl]
      have : g = f := by
        rcases List.mem_cons.1 hm with e | hx
        · exact (Prod.mk.inj e).2
        · exact absurd (List.mem_map.2 ⟨_, hx, rfl⟩) hd.1
      subst this
      congr 1
      apply List.map_congr_left
      rintro ⟨k, f⟩ hk
      have hne : k ≠ m := fun e => hd.1 (List.mem_map.2 ⟨_, hk, e⟩)
      show (k, φ k f) = (k, ψ k f)
      rw [h k f hne]
    · rw [if_neg hmn]
      have hr : (n, g) ∈ r := by
        rcases List.mem_cons.1 hm with e | hx
        · exact absurd (Prod.mk.inj e).1.symm hmn
        · exact hx
      show (m, φ m f) :: put (mapF φ r) n (ψ n g) = (m, ψ m f) :: mapF ψ r
      rw [ih hd.2 hr, h m f hmn]
theorem mapF_mem (φ : Name → File → File) (M : Files) {n : Name} {g : File} (h : (n, g) ∈ mapF φ M) : ∃ f, (n, f) ∈ M ∧ g = φ n f := by
  unfold mapF at h
  obtain ⟨⟨m, f⟩, hx, e⟩ := List.mem_map.1 h
  cases e
  exact ⟨f, hx, rfl⟩
theorem has_mem {M : Files} {n : Name} {g : File} (h : (n, g) ∈ M) : has M n = true := by
  induction M with
  | nil => cases h
  | cons x r ih =>
    obtain ⟨m, f⟩ := x
    unfold has
    by_cases hmn : m = n
    · rw [if_pos hmn]
    · rw [if_neg hmn]
      rcases List.mem_cons.1 h with e | hx
      · exact absurd (Prod.mk.inj e).1.symm hmn
      · exact ih hx
theorem at_mem {M : Files} (hd : (M.map (·.1)).Nodup) {n : Name} {g : File} (h : (n, g) ∈ M) : at_ M n = g := by
  obtain ⟨j, hj⟩ := List.getElem?_of_mem h
  exact (one_here hd hj g).2.1
theorem total_mapF (φ : Name → File → File) (M : Files) (h : ∀ x ∈ M, (φ x.1 x.2).1.length ≤ x.2.1.length) : total (mapF φ M) ≤ total M := by
  induction M with
  | nil => exact Nat.le_refl _
  | cons x r ih =>
    have h1 := h x (by simp)
    have h2 := ih (fun y hy => h y (by simp [hy]))
    unfold total mapF at *
    simp only [List.map_cons, List.sum_cons] at *
    omega
theorem trim_len (keep : Int) (f : File) : (trim keep f).1.length ≤ f.1.length := by unfold trim; rw [List.length_take]; omega
theorem trim_syn (keep : Int) (f : File) (h : f.2 ≤ f.1.length) : (trim keep f).1.length = (trim keep f).2 := by
  have := stay_le keep f
  unfold trim
  rw [List.length_take]
  show min (f.2 + stay keep f) f.1.length = f.2 + stay keep f
  omega
theorem ok_crash {d : Disk} (h : Ok d) (keep : Int) : Ok (crash d keep) := by
  have hf : (crash d keep).files = mapF (fun _ f => trim keep f) d.files := rfl
  refine ⟨h.cap, ?_, ?_, ?_, ?_, h.lef⟩
  · rw [hf]
    exact Nat.le_trans (total_mapF _ _ (fun x _ => trim_len keep x.2)) h.tot
  · rw [hf, mapF_names]; exact h.nod
  · rintro ⟨n, g⟩ hx
    rw [hf] at hx
    obtain ⟨f, hm, rfl⟩ := mapF_mem _ _ hx
    exact Nat.le_of_eq (trim_syn keep f (h.syn _ hm)).symm
  · rintro ⟨n, g⟩ hx
    rw [hf] at hx
    obtain ⟨f, hm, rfl⟩ := mapF_mem _ _ hx
    exact h.nam (n, f) hm
/-- how many have not come yet -/
def rest (done : Name → Bool) : Files → Nat
  | [] => 0
  | x :: r => (done x.1).toNat.ble 0 |>.toNat.add (rest done r)
theorem rest_cons (done : Name → Bool) (x : Name × File) (r : Files) : rest done (x :: r) = ((done x.1).toNat.ble 0).toNat + rest done r := rfl
theorem rest_le (M : Files) (n : Name) (done : Name → Bool) : rest (fun m => decide (m = n) || done m) M ≤ rest done M := by
  induction M with
  | nil => exact Nat.le_refl _
  | cons x r ih =>
    rw [rest_cons, rest_cons]
    have : ((decide (x.1 = n) || done x.1).toNat.ble 0).toNat ≤ ((done x.1).toNat.ble 0).toNat := by
      cases done x.1 <;> cases decide (x.1 = n) <;> decide
    omega
theorem rest_less {M : Files} {done : Name → Bool} {n : Name} {g : File} (h : (n, g) ∈ M) (hn : done n = false) : rest (fun m => decide (m = n) || done m) M < rest done M := by
  induction M with
  | nil => cases h
  | cons x r ih =>
    have hle := rest_le r n done
    rw [rest_cons, rest_cons]
    obtain ⟨m, f⟩ := x
    rcases List.mem_cons.1 h with e | hx
    · obtain rfl := (Prod.mk.inj e).1
      have h1 : ((decide (n = n) || done n).toNat.ble 0).toNat = 0 := by rw [decide_eq_true rfl]; rfl
      have h2 : ((done n).toNat.ble 0).toNat = 1 := by rw [hn]; rfl
      show ((decide (n = n) || done n).toNat.ble 0).toNat + _ < ((done n).toNat.ble 0).toNat + _
      omega
    · have := ih hx
      have : ((decide (m = n) || done m).toNat.ble 0).toNat ≤ ((done m).toNat.ble 0).toNat := by
        cases done m <;> cases decide (m = n) <;> decide
      show ((decide (m = n) || done m).toNat.ble 0).toNat + _ < ((done m).toNat.ble 0).toNat + _
      omega
end vd
set_option maxHeartbeats 4000000 in
theorem vd_crash {w : World} {p b : Nat} {d : vd.Disk} (keep : Int) (hd : Dk w p b d) (ho : vd.Ok d) :
    Calls Tryz.prog 56 #[dptr p, .int .i64 keep] w (fun e w' => e = .returned (.tuple #[]) ∧ Dk w' p b (vd.crash d keep) ∧ Apart [p, b] w w') := by
  have hpb := hd.ne
  have hpl := hd.blk.lt
  have hbl := hd.map.lt
  have z3 := hd.blk.free 3
  have hA1 : Apart [p] w (w.setCell ⟨p, 3, none⟩ (.bool true)) := Apart.setCell w p 3 _
  have hv1 : Vb (w.setCell ⟨p, 3, none⟩ (.bool true)) p (diskV b { d with off := true }) 90 := hd.blk.set 3 (.bool true)
  have hm1 : FMap (w.setCell ⟨p, 3, none⟩ (.bool true)) b d.files := hd.map.apart hA1 (by simp; exact fun e => hpb e.symm)
  have q3 := hd.blk.cell 3 _ rfl
  have q2 := hv1.cell 2 _ rfl
  obtain ⟨W1, hr, hit, hbl1, hsz⟩ := It.begin hm1 (P := Tryz.prog) Tryz.underlying88 rfl
  unfold dptr
  go_enter Tryz.func56, Tryz.ntmps56
  go_wp2
  have hm2 := hm1.below hbl1
  have hA2 : Apart [p, b] w W1 := (hA1.mono (by simp)).trans (.of_below hbl1 _)
  rw [show (w.setCell ⟨p, 3, none⟩ (.bool true)).heap.size = w.heap.size from by simp [World.setCell]] at hit hbl1 hsz
  have hd1 : Dk W1 p b { d with off := true } := ⟨(hbl1.block p hpl).trans hv1, hm2⟩
  have hsh : Hid (vd.mapF (fun n f => bif (fun _ => false) n then vd.trim keep f else f) d.files = d.files) := Lib.hid (vd.mapF_id _)
  clear hr hbl1 z3 q3 q2 hm1 hv1 hA1 hsz hm2
  have hlt : w.heap.size < W1.heap.size := hit.lt.1
  go_loopg [4] (vd.rest (fun _ => false) d.files) (fun k _ wr => ∃ done, k = vd.rest done d.files ∧ It wr w.heap.size b (vd.mapF (fun n f => bif done n then vd.trim keep f else f) d.files) done ∧ Dk wr p b { d with files := vd.mapF (fun n f => bif done n then vd.trim keep f else f) d.files, off := true } ∧ Apart [p, b] w wr)
  case atStart => exact ⟨fun _ => false, rfl, by rw [hsh.out]; exact hit, by rw [hsh.out]; exact hd1, hA2⟩
  case round =>
    obtain ⟨done, hk, hi, hD, hA⟩ := hrel
    have HK := Lib.hid hk
    clear hk hit hd1 hA2
    rcases hi.step (P := Tryz.prog) 0 with ⟨hall, hrun⟩ | ⟨n, g, w1, hmem, hdn, hrun, hi1, hA1, hs1, hent⟩
    · have he : vd.mapF (fun n f => bif done n then vd.trim keep f else f) d.files = vd.mapF (fun _ f => vd.trim keep f) d.files := by
        unfold vd.mapF
        apply List.map_congr_left
        rintro ⟨n, f⟩ hx
        have := hall (n, bif done n then vd.trim keep f else f) (List.mem_map.2 ⟨_, hx, rfl⟩)
        show (n, bif done n then vd.trim keep f else f) = (n, vd.trim keep f)
        rw [show done n = true from this]; rfl
      rw [he] at hD
      clear he hall hi
      go_wp2
      go_end0
      exact ⟨rfl, hD, hA⟩
    · obtain ⟨f, hf, hg⟩ := vd.mapF_mem _ _ hmem
      rw [hdn] at hg
      obtain rfl : g = f := hg

      have hsyn := ho.syn _ hf
      have hnam : n.length ≤ 60 := ho.nam _ hf
      have htot : g.1.length ≤ vd.total d.files := by
        have := vd.total_del d.files n
        rw [vd.at_mem ho.nod hf] at this
        omega
      have hcap := ho.cap
      have htc := ho.tot
      have hstay := vd.stay_le keep g
      obtain ⟨L, hL⟩ : ∃ L, g.1.length = L := ⟨_, rfl⟩
      obtain ⟨Y, hY⟩ : ∃ Y, g.2 = Y := ⟨_, rfl⟩
      obtain ⟨K, hK⟩ : ∃ K, vd.stay keep g = K := ⟨_, rfl⟩
      have hsz : (crcm.mk g.1).size = L := by rw [crcm.mk_size, hL]
      have hrem : 0 ≤ keep → keep.tmod ((L - Y + 1 : Nat) : Int) = (K : Int) := by
        intro h0
        rw [Int.tmod_eq_emod_of_nonneg h0, ← hK]
        have h2 := Int.emod_nonneg keep (b := ((g.1.length - g.2 + 1 : Nat) : Int)) (by omega)
        unfold vd.stay
        rw [if_pos h0, hL, hY] at *
        omega
      have hk0 : ¬ 0 ≤ keep → K = 0 := by
        intro h0
        rw [← hK]; unfold vd.stay; rw [if_neg h0]
      have htrim : vd.trim keep g = ((g.1.take (Y + K)), Y + K) := by unfold vd.trim; rw [hK, hY]
      rw [show fileV g = .agg #[.string (crcm.mk g.1), .int .i64 (Y : Int)] from by rw [← hY]; rfl] at hrun hent
      rw [keyV] at hrun hent
      simp only [hL, hY, hK] at hsyn htot hstay
      obtain ⟨N, hN⟩ : ∃ N, Y + K = N := ⟨_, rfl⟩
      rw [hN] at htrim
      obtain ⟨Z, hZ⟩ : ∃ Z, L - Y + 1 = Z := ⟨_, rfl⟩
      rw [hZ] at hrem
      have e1 : IntKind.i64.wrap ((L : Int) - (Y : Int)) = (L : Int) - Y := by rw [IntKind.wrap_i64]; omega
      have e2 : IntKind.i64.wrap ((L : Int) - (Y : Int) + 1) = (Z : Int) := by rw [IntKind.wrap_i64]; omega
      have e3 : IntKind.i64.wrap ((Y : Int) + (K : Int)) = (N : Int) := by rw [IntKind.wrap_i64]; omega
      have hex : (crcm.mk g.1).extract 0 N = crcm.mk (g.1.take N) := by rw [Lib.extract_eq]; show (⟨((crcm.mk g.1).data.toList.drop 0 |>.take (N - 0)).toArray⟩ : ByteArray) = _; rw [crcm.mk_toList]; rfl
      have hmin : min N L = N := by omega
      have hsz2 : (crcm.mk (g.1.take N)).size = N := by rw [crcm.mk_size, List.length_take]; omega
      obtain ⟨M, hM⟩ : ∃ M, vd.mapF (fun n f => bif done n then vd.trim keep f else f) d.files = M := ⟨_, rfl⟩
      obtain ⟨M', hM'⟩ : ∃ M', vd.mapF (fun m f => bif (decide (m = n) || done m) then vd.trim keep f else f) d.files = M' := ⟨_, rfl⟩
      have hput : vd.put M n (g.1.take N, N) = M' := by
        rw [← hM, ← hM', ← htrim]
        have := vd.mapF_put (fun n f => bif done n then vd.trim keep f else f) (fun m f => bif (decide (m = n) || done m) then vd.trim keep f else f) d.files ho.nod hf (fun m f hne => by rw [decide_eq_false hne]; rfl)
        rw [decide_eq_true rfl] at this
        exact this
      have hatM : vd.at_ M n = g := vd.at_mem (by rw [← hM, vd.mapF_names]; exact ho.nod) (by rw [← hM]; exact hmem)
      have hhas : vd.has M n = true := vd.has_mem (by rw [← hM]; exact hmem)
      have htM : vd.total M ≤ d.cap := by
        rw [← hM]
        refine Nat.le_trans (vd.total_mapF _ _ (fun x _ => ?_)) htc
        cases done x.1
        · exact Nat.le_refl _
        · exact vd.trim_len keep x.2
      rw [hM] at hi hi1 hD hmem
      have hD1 : Dk w1 p b { d with files := M, off := true } := hD.apart hA1 (by simp; omega) (by simp; omega)
      have hless := vd.rest_less hf hdn
      have hlen : (g.1.take N).length = N := by rw [List.length_take]; omega
      have HL := Lib.hid hless
      have HLen := Lib.hid hlen
      have HP := Lib.hid hput
      have HAt := Lib.hid hatM
      have HH := Lib.hid hhas
      have HM' := Lib.hid hM'
      clear htrim hf hmem hdn hY hK hM hM' hput hatM hhas hlen hless hL
      have hfin : Calls Tryz.prog 77 #[.pointer (some ⟨p, 0, none⟩), .string (crcm.mk n), .agg #[.string (crcm.mk (g.1.take N)), .int .i64 (N : Int)], .bool false] (w1.alloc (.cells #[.string (crcm.mk (g.1.take N)), .int .i64 (N : Int)] 124)) (fun e w' => e = .returned (.tuple #[]) ∧ It w' w.heap.size b M' (fun m => decide (m = n) || done m) ∧ Dk w' p b { d with files := M', off := true } ∧ Apart [p, b] w w') := by
        have hb2 : Below w1.heap.size w1 (w1.alloc (.cells #[.string (crcm.mk (g.1.take N)), .int .i64 (N : Int)] 124)) := (Below.refl _ w1).alloc (Nat.le_refl _) _
        have hA2 := Apart.of_below hb2 []
        have hr := hi1.lt
        refine (vd_set (d := { d with files := M, off := true }) n (g.1.take N, N) false (hD1.apart hA2 (by simp) (by simp)) ?_ hcap htM ?_ (fun h => by cases h)).mono ?_
        · unfold maxLen; omega
        · show vd.total M + (g.1.take N).length ≤ (vd.at_ M n).1.length + d.cap
          rw [HAt.out, HLen.out]
          have : g.1.length = L := by rw [← hsz, crcm.mk_size]
          omega
        · rintro e w3 ⟨rfl, h1, h2, h3⟩
          have h4 : vd.setF M n (g.1.take N, N) false = M' := HP.out
          have h5 := (hi1.apart hA2 (by simp) (by simp)).stays h2 (by simp; omega) HH.out (h3 HH.out rfl) (by rw [HP.out]; have := h1.map; rw [h4] at this; exact this)
          rw [HP.out] at h5
          rw [h4] at h1
          refine ⟨rfl, h5, h1, ?_⟩
          have hA3 : Apart [p, b] w w1 := hA.then hA1 (by simp) (by simp)
          exact hA3.then ((hA2.mono (T := [p, b]) (by simp)).trans h2) (by simp) (by simp)
      by_cases h0 : 0 ≤ keep
      · have hr := hrem h0
        clear hrem hk0
        go_wp2_with fail
        refine hfin.mono ?_
        rintro e w3 ⟨rfl, h1, h2, h3⟩
        go_wp2_with fail
        go_roundg (vd.rest (fun m => decide (m = n) || done m) d.files)
        case rel => exact ⟨fun m => decide (m = n) || done m, rfl, by rw [HM'.out]; exact h1, by rw [HM'.out]; exact h2, h3⟩
        case measure => rw [HK.out]; exact HL.out
      · obtain rfl := hk0 h0
        obtain rfl : Y = N := by omega
        clear hrem hk0
        go_wp2_with fail
        refine hfin.mono ?_
        rintro e w3 ⟨rfl, h1, h2, h3⟩
        go_wp2_with fail
        go_roundg (vd.rest (fun m => decide (m = n) || done m) d.files)
        case rel => exact ⟨fun m => decide (m = n) || done m, rfl, by rw [HM'.out]; exact h1, by rw [HM'.out]; exact h2, h3⟩
        case measure => rw [HK.out]; exact HL.out
end Go.Proofs.YtmcibggjolckoaaGreatDoor
namespace Go.Proofs.YtmcibggjolckoaaGreatDoor
open Go Go.RowKit Go.Lib
set_option maxRecDepth 100000

namespace vd
def goes (d : Disk) (always : Bool) : Bool := decide (d.left ≠ 1) || (always || decide (d.keep.tmod 2 ≠ 0))
def less (d : Disk) : Disk := { d with left := d.left - 1 }
/-- a disk behind what may have been done -/
def done (d : Disk) (f2 : Files) (always : Bool) : Disk :=
  let d2 := if goes d always then { less d with files := f2 } else less d
  if d.left = 1 then crash d2 d.keep else d2
def doneE (d : Disk) : Nat := if d.left = 1 then 6 else 0
end vd
set_option maxHeartbeats 4000000 in
theorem vd_act {w : World} {p b : Nat} {d : vd.Disk} (f2 : vd.Files) (always : Bool) (F : Nat) (caps : Array Value) (hd : Dk w p b d) (ho : vd.Ok d) (ho2 : vd.Ok { d with files := f2 }) (eg : ∀ args w, (callFunc F args).run Tryz.prog w = .ok (.enter F args) w)
    (hf : ∀ w1, Dk w1 p b (vd.less d) → Apart [p] w w1 → Calls Tryz.prog F caps w1 (fun e w2 => e = .returned (.tuple #[]) ∧ Dk w2 p b { vd.less d with files := f2 } ∧ Apart [p, b] w1 w2)) :
    Calls Tryz.prog 113 #[dptr p, .bool always, .func (.func F) #[] caps] w (fun e w' => e = .returned (.int .i64 (vd.doneE d : Nat)) ∧ Dk w' p b (vd.done d f2 always) ∧ Apart [p, b] w w') := by
  have hpb := hd.ne
  have hpl := hd.blk.lt
  have hbl := hd.map.lt
  obtain ⟨n, hn⟩ : ∃ n, d.left = n := ⟨_, rfl⟩
  have hln := ho.lef
  rw [hn] at hln
  obtain ⟨m, hm⟩ : ∃ m, n - 1 = m := ⟨_, rfl⟩
  obtain ⟨k, hk⟩ : ∃ k, d.keep = k := ⟨_, rfl⟩
  have z4 := hd.blk.free 4
  have q4 : w.cell? ⟨p, 4, none⟩ = some (.int .i64 (n : Int)) := by rw [← hn]; exact hd.blk.cell 4 _ rfl
  have q5 : w.cell? ⟨p, 5, none⟩ = some (.int .i64 k) := by rw [← hk]; exact hd.blk.cell 5 _ rfl
  have e1 : IntKind.i64.wrap ((n : Int) - 1) = (n : Int) - 1 := by rw [IntKind.wrap_i64]; omega
  have e2 : max ((n : Int) - 1) 0 = (m : Int) := by omega
  have hA1 := Apart.setCell w p 4 (.int .i64 (m : Int))
  have hd1 : Dk (w.setCell ⟨p, 4, none⟩ (.int .i64 (m : Int))) p b (vd.less d) := by
    refine ⟨?_, hd.map.apart hA1 (by simp; exact fun e => hpb e.symm)⟩
    have := hd.blk.set 4 (.int .i64 (m : Int))
    rw [← hm, ← hn] at this ⊢
    exact this
  have q5' := hd1.blk.cell 5 _ rfl
  rw [show (vd.less d).keep = k from hk] at q5'
  have hcall := hf _ hd1 hA1
  have hc2 := hA1.mono (T := [p, b]) (by simp)
  obtain ⟨W, hW⟩ : ∃ W, w.setCell ⟨p, 4, none⟩ (.int .i64 (m : Int)) = W := ⟨_, rfl⟩
  unfold dptr
  have ho1 : vd.Ok (vd.less d) := ⟨ho.cap, ho.tot, ho.nod, ho.syn, ho.nam, by show d.left - 1 ≤ _; have := ho.lef; omega⟩
  have ho3 : vd.Ok { vd.less d with files := f2 } := ⟨ho2.cap, ho2.tot, ho2.nod, ho2.syn, ho2.nam, ho1.lef⟩
  have hdone : ∀ D2, D2 = (if vd.goes d always then { vd.less d with files := f2 } else vd.less d) → vd.done d f2 always = if n = 1 then vd.crash D2 k else D2 := by
    rintro D2 rfl
    rw [← hn, ← hk]; rfl
  have hE : vd.doneE d = if n = 1 then 6 else 0 := by rw [← hn]; rfl
  have hgo : vd.goes d always = (decide (n ≠ 1) || (always || decide (k.tmod 2 ≠ 0))) := by rw [← hn, ← hk]; rfl
  have HD := Lib.hid hdone
  have HE := Lib.hid hE
  have HG := Lib.hid hgo
  have HC : Hid (Dk W p b (vd.less d)) := by rw [← hW]; exact Lib.hid hd1
  rw [hW] at hc2 q5' hcall
  have HK3 : Hid (∀ (w2 : World) (f : vd.Files), Dk w2 p b { vd.less d with files := f } → w2.cell? ⟨p, 5, none⟩ = some (.int .i64 k)) := Lib.hid fun w2 f h => by rw [← hk]; exact h.blk.cell 5 _ rfl
  clear hdone hE hgo hd1 hA1 hf hd ho2 ho hn hm hk
  go_enter Tryz.func113, Tryz.ntmps113
  by_cases h1 : n = 1
  · subst h1
    obtain rfl : m = 0 := by omega
    rw [show ((0 : Nat) : Int) = 0 from rfl] at hW
    have hE6 : vd.doneE d = 6 := HE.out
    have HE6 := Lib.hid hE6
    clear hE6
    by_cases hg : (always || decide (k.tmod 2 ≠ 0)) = true
    · have hfin : vd.done d f2 always = vd.crash { vd.less d with files := f2 } k := by
        rw [HD.out _ rfl, if_pos rfl, HG.out, hg, Bool.or_true, if_pos rfl]
      have HF := Lib.hid hfin
      clear hfin
      cases always with
      | true =>
        clear hg
        go_wp2_with fail
        refine hcall.mono ?_
        rintro e w2 ⟨rfl, hd2, hA2⟩
        have q5 := HK3.out _ _ hd2
        go_wp2_with fail
        refine (vd_crash k hd2 ho3).mono ?_
        rintro e w3 ⟨rfl, hd3, hA3⟩
        go_wp2_with fail
        go_ret
        exact ⟨by rw [HE6.out]; rfl, by rw [HF.out]; exact hd3, (hc2.trans hA2).trans hA3⟩
      | false =>
        have hk2 : ¬ k.tmod 2 = 0 := by simpa using hg
        clear hg
        go_wp2_with fail
        refine hcall.mono ?_
        rintro e w2 ⟨rfl, hd2, hA2⟩
        have q5 := HK3.out _ _ hd2
        go_wp2_with fail
        refine (vd_crash k hd2 ho3).mono ?_
        rintro e w3 ⟨rfl, hd3, hA3⟩
        go_wp2_with fail
        go_ret
        exact ⟨by rw [HE6.out]; rfl, by rw [HF.out]; exact hd3, (hc2.trans hA2).trans hA3⟩
    · have hfin : vd.done d f2 always = vd.crash (vd.less d) k := by
        have hg' := Bool.eq_false_iff.2 hg
        rw [HD.out _ rfl, if_pos rfl, HG.out, hg']; rfl
      have HF := Lib.hid hfin
      clear hfin
      cases always with
      | true => exact absurd rfl hg
      | false =>
        have hk2 : k.tmod 2 = 0 := by simpa using hg
        clear hg
        go_wp2_with fail
        refine (vd_crash k HC.out ho1).mono ?_
        rintro e w3 ⟨rfl, hd3, hA3⟩
        go_wp2_with fail
        go_ret
        exact ⟨by rw [HE6.out]; rfl, by rw [HF.out]; exact hd3, hc2.trans hA3⟩
  · have h1i : ¬ (n : Int) = 1 := by omega
    have hE6 : vd.doneE d = 0 := by rw [HE.out, if_neg h1]
    have hfin : vd.done d f2 always = { vd.less d with files := f2 } := by
      rw [HD.out _ rfl, if_neg h1, HG.out, decide_eq_true h1]; rfl
    have HF := Lib.hid hfin
    have HE6 := Lib.hid hE6
    clear hfin hE6
    go_wp2_with fail
    refine hcall.mono ?_
    rintro e w2 ⟨rfl, hd2, hA2⟩
    go_wp2_with fail
    go_ret
    exact ⟨by rw [HE6.out]; rfl, by rw [HF.out]; exact hd2, hc2.trans hA2⟩
end Go.Proofs.YtmcibggjolckoaaGreatDoor
