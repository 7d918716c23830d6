/- KcStart, KcStarts: one behind the other. -/
import Derived.Test.YtmcibggjolckoaaGreatDoorG34
import Derived.Deep.RegionHeld
import Derived.Deep.RegionLaw
import Derived.Deep.RegionHeld3
namespace Go.Proofs.YtmcibggjolckoaaGreatDoor
open Go Go.RowKit Go.Deep
set_option maxRecDepth 100000
theorem node_laid_after {w1 : World} (x : rf.Node) (ev : Value) :
    Blk ((w1.alloc (.cells #[.int .i64 0, .int .i64 0, .int .u64 0, .int .i64 0, .slice none 0 0, .int .i64 0, .int .i64 0, .int .u64 0, .int .i64 0, .bool false, .bool false, .bool false, .bool false, .bool false, .bool false, .bool false, .int .u64 0, .int .u64 0, .int .u64 0, .int .u64 0, .int .u64 0, .int .u64 0, .int .u64 0, .int .u64 0, .int .u64 0, .int .u64 0, .int .u64 0, .int .u64 0, .int .u64 0, .int .u64 0] 50)).setRow w1.heap.size (ndC x ev).toArray) w1.heap.size (ndC x ev) 50 ∧ Below w1.heap.size w1 ((w1.alloc (.cells #[.int .i64 0, .int .i64 0, .int .u64 0, .int .i64 0, .slice none 0 0, .int .i64 0, .int .i64 0, .int .u64 0, .int .i64 0, .bool false, .bool false, .bool false, .bool false, .bool false, .bool false, .bool false, .int .u64 0, .int .u64 0, .int .u64 0, .int .u64 0, .int .u64 0, .int .u64 0, .int .u64 0, .int .u64 0, .int .u64 0, .int .u64 0, .int .u64 0, .int .u64 0, .int .u64 0, .int .u64 0] 50)).setRow w1.heap.size (ndC x ev).toArray) := by
  have hb : Blk (w1.alloc (.cells #[.int .i64 0, .int .i64 0, .int .u64 0, .int .i64 0, .slice none 0 0, .int .i64 0, .int .i64 0, .int .u64 0, .int .i64 0, .bool false, .bool false, .bool false, .bool false, .bool false, .bool false, .bool false, .int .u64 0, .int .u64 0, .int .u64 0, .int .u64 0, .int .u64 0, .int .u64 0, .int .u64 0, .int .u64 0, .int .u64 0, .int .u64 0, .int .u64 0, .int .u64 0, .int .u64 0, .int .u64 0] 50)) w1.heap.size (ndC zeroN nilV) 50 := Blk.new w1 _ _
  exact ⟨hb.row _, ((Below.refl _ w1).alloc (Nat.le_refl _) _).trans (below_setRow _ _ _ (Nat.le_refl _))⟩
theorem node_laid_before {w1 : World} {base bn : Nat} (hZ : Blk w1 bn (ndC zeroN nilV) 50) (hb : base ≤ bn) (x : rf.Node) (ev : Value) :
    Blk (w1.setRow bn (ndC x ev).toArray) bn (ndC x ev) 50 ∧ Below base w1 (w1.setRow bn (ndC x ev).toArray) := ⟨hZ.row _, below_setRow _ _ _ hb⟩
theorem has_raw {w : World} {c n k : Nat} {RR : Option Addr} (i : Nat) (c0 : w.cell? ⟨c, 0, none⟩ = some (.slice RR n k)) (hi : i < n) : Calls Tryz.prog 37 #[cptr c, .int .i64 (i : Int)] w fun e w' => e = .returned (.bool true) ∧ w = w' := by
  unfold cptr
  have e1 : decide (0 ≤ (i : Int)) = true := decide_eq_true (by omega)
  have e2 : decide ((i : Int) < (n : Int)) = true := decide_eq_true (by omega)
  have HI := Lib.hid hi
  clear hi
  go_enter Tryz.func37, Tryz.ntmps37
  go_wp2
  go_ret
  refine ⟨?_, rfl⟩
  rw [← decide_eq_true HI.out]
  rfl
set_option maxHeartbeats 8000000 in
theorem start_core {w0 w : World} {c R n k i q p b : Nat} {wv : Value} {us : List Value} {x0 : rf.Node} {f0 : Fp} {d d2 : vd.Disk} {ts : List (List UInt8)} {T : Nat} {V : Int} {es : List rl.Ent}
    (hcb : Vb w c [.slice (some ⟨R, 0, none⟩) n k, wv] 63) (hRb : Vb w R us 64) (hus : us[i]? = some (.pointer (some ⟨q, 0, none⟩))) (hi : i < n) (hn7 : n ≤ 7)
    (hblk : Vb w q (peerC x0 f0 false) 67) (hp0 : f0.p = p) (hq0 : w0.heap.size ≤ q) (ok0 : NOk x0) (hdisk : Ldk w0 w p b d) (ht : TabAt w0)
    (hopen : wl.open_ { d with off := false, left := 0 } RAFT = (d2, ts, 0)) (hfrm : rl.from_ ts = ((T, V, es), 0)) (hl : ts.length ≤ 10000) (hall : ∀ t ∈ ts, t.length ≤ maxLen) :
    Calls Tryz.prog 22 #[cptr c, .int .i64 (i : Int)] w fun e w' => e = .returned (.int .i64 0) ∧ ∃ s g A k', Vb w' q (peerC (rf.new (i : Int) (n : Int) T V es) ⟨q, p, b, s, g, A, k', .pointer (some ⟨s, 0, none⟩), ts, d2⟩ true) 67 ∧ Ldk w0 w' p b d2 ∧ EntsB 0 w' (.slice A es.length k') es ∧ kSt w' s g ∧ Lg w' g p ⟨RAFT, ts.length, false⟩ ∧ w.heap.size ≤ s ∧ w.heap.size ≤ g ∧ Apart [q, p, b] w w' := by
  subst hp0
  have hlx := ndC_len ok0 (f0.ev x0)
  have c0 := hcb.cell 0 _ rfl
  have cR := hRb.cell i _ hus
  have c30 : w.cell? ⟨q, 30, none⟩ = some (dptr f0.p) := hblk.cell 30 _ (by unfold peerC; rw [List.getElem?_append_right (by omega), hlx]; rfl)
  have c32 : w.cell? ⟨q, 32, none⟩ = some (.bool false) := hblk.cell 32 _ (by unfold peerC; rw [List.getElem?_append_right (by omega), hlx]; rfl)
  have hqp : q ≠ f0.p := ne_of_type hblk hdisk.dk.blk (by decide)
  have hqb : q ≠ b := ne_map hblk hdisk.dk.map
  have hcp : c ≠ f0.p := ne_of_type hcb hdisk.dk.blk (by decide)
  have hcq : c ≠ q := ne_of_type hcb hblk (by decide)
  have hcb2 : c ≠ b := ne_map hcb hdisk.dk.map
  have HH := Lib.hid (has_raw (w := w) i c0 hi)
  have HON := Lib.hid (ld_on hdisk)
  have HOP : Hid (∀ w1, Ldk w0 w1 f0.p b { d with off := false, left := 0 } → _) := Lib.hid fun w1 h1 => raft_open (w := w1) h1 ht hopen hfrm hl hall
  obtain ⟨x, hx⟩ : ∃ x, rf.new (i : Int) (n : Int) T V es = x := ⟨_, rfl⟩
  have okx : NOk x := by rw [← hx]; exact ⟨rfl, rfl, rfl, by intro y hy; simp [rf.new] at hy; omega, by intro y hy; simp [rf.new] at hy; omega⟩
  have HNEW : Hid (∀ (A : Option Addr) (k' : Nat) (W : World), Calls Tryz.prog 42 #[.int .i64 (i : Int), .int .i64 (n : Int), stV T V (.slice A es.length k')] W fun e w' => e = .returned (.tuple #[ndV x (.slice A es.length k'), .int .i64 0]) ∧ Below W.heap.size W w') := Lib.hid fun A k' W => by
    rw [← hx]
    exact new_any (i : Int) (n : Int) T V A k' es.length es W (by omega) (by omega) (by omega) (by omega)
  have HXL : Hid (x.log = es) := Lib.hid (by rw [← hx]; rfl)
  have HOK := Lib.hid okx
  have HBLK := Lib.hid hblk
  have HCB := Lib.hid hcb
  have HDK := Lib.hid hdisk
  have HLX := Lib.hid hlx
  have HQ0 : Hid (∀ y ∈ [q], w0.heap.size ≤ y) := Lib.hid fun y hy => by
    obtain rfl : y = q := by simpa using hy
    exact hq0
  have HNE := Lib.hid (And.intro hqp (And.intro hqb (And.intro hcp (And.intro hcq hcb2))))
  have hin : (i : Int) < (n : Int) := by omega
  rw [hx]
  unfold cptr at HH ⊢
  unfold dptr at c30
  clear hq0 hblk hcb hRb hus hi hn7 ok0 hdisk hopen hfrm hl hall hx okx hlx hqp hqb hcp hcq hcb2
  go_enter Tryz.func22, Tryz.ntmps22
  go_upto_region 6 with (go_at_call 37; refine HH.out.mono ?_; rintro e w1 ⟨rfl, rfl⟩)
  go_upto_region 7 with (go_at_call 40; refine HON.out.mono ?_; rintro e w1 ⟨rfl, hd1, hA1⟩; have HD1 := Lib.hid hd1; have HA1 := Lib.hid hA1; clear hd1 hA1)
  clear c32
  have c30 := cell_apart c30 HA1.out (fun hx => HNE.out.1 (by simpa using hx))
  go_upto_region 8 with (go_at_call 41; refine (HOP.out _ HD1.out).mono ?_; rintro e w2 ⟨s, g, u, rfl, hd2, hA2, hg2, hs2, hk2, hl2, hE2⟩; obtain ⟨A, k', rfl⟩ := hE2.form; have HP2 := Lib.hid (And.intro hd2 (And.intro hA2 (And.intro hg2 (And.intro hs2 (And.intro hk2 (And.intro hl2 hE2)))))); clear hd2 hA2 hg2 hs2 hk2 hl2 hE2; unfold stV)
  obtain ⟨ev, hev⟩ : ∃ v, Value.slice A es.length k' = v := ⟨_, rfl⟩
  rw [hev]
  have HEV := Lib.hid hev
  clear hev
  have hs3 : Vb (w2.alloc (.cells #[.int .u64 (T : Int), .int .i64 V, ev] 46)) w2.heap.size [.int .u64 (T : Int), .int .i64 V, ev] 46 := Vb.new w2 _ _
  have hb3 : Below w2.heap.size w2 (w2.alloc (.cells #[.int .u64 (T : Int), .int .i64 V, ev] 46)) := (Below.refl _ w2).alloc (Nat.le_refl _) _
  obtain ⟨W3, hW3⟩ : ∃ W, w2.alloc (.cells #[.int .u64 (T : Int), .int .i64 V, ev] 46) = W := ⟨_, rfl⟩
  rw [hW3] at hs3 hb3 ⊢
  obtain ⟨bs, hbs⟩ : ∃ b, w2.heap.size = b := ⟨_, rfl⟩
  rw [hbs] at hs3 ⊢
  -- all that stands behind
  have hA12 : Apart [f0.p, b] w w2 := (HA1.out.mono (fun y hy => by simp at hy ⊢; exact .inl hy)).trans HP2.out.2.1
  have hA13 : Apart [f0.p, b] w W3 := hA12.trans (Apart.of_below hb3 _)
  have hblk3 : Vb W3 q (peerC x0 f0 false) 67 := HBLK.out.apart hA13 (by have := HNE.out; simp; omega)
  have hcb3 : Vb W3 c [.slice (some ⟨R, 0, none⟩) n k, wv] 63 := HCB.out.apart hA13 (by have := HNE.out; simp; omega)
  have hone : ev.oneCell' = true := by rw [← HEV.out]; rfl
  have MK : Hid (∀ w', Below W3.heap.size W3 w' → (w'.cell? ⟨c, 0, none⟩ = some (.slice (some ⟨R, 0, none⟩) n k) ∧ w'.cell? ⟨bs, 0, none⟩ = some (.int .u64 (T : Int)) ∧ w'.cell? ⟨bs, 1, none⟩ = some (.int .i64 V) ∧ w'.cell? ⟨bs, 2, none⟩ = some ev)) := Lib.hid fun w' hb => ⟨cell_later hb (hcb3.cell 0 _ rfl), cell_later hb (hs3.cell 0 _ rfl), cell_later hb (hs3.cell 1 _ rfl), cell_later hb (hs3.cell 2 _ rfl)⟩
  have hl30 : (ndC x ev).length = 30 := ndC_len HOK.out ev
  have hl33 : (peerC x0 f0 false).length = 33 := by unfold peerC; rw [List.length_append, HLX.out]; rfl
  have hfin : ∀ W, Below W3.heap.size W3 W → W.there q 0 (ndC x ev).toArray.size ∧ (W.setCells q 0 (ndC x ev)).cell? ⟨q, 31, none⟩ = some f0.sv ∧ (W.setCells q 0 (ndC x ev)).cell? ⟨q, 32, none⟩ = some (.bool false) ∧ (W.setCells q 0 (ndC x ev)).frozen? ⟨q, 31, none⟩ = false ∧ (W.setCells q 0 (ndC x ev)).frozen? ⟨q, 32, none⟩ = false ∧
      ∃ s' g' A' k'', Vb (((W.setCells q 0 (ndC x ev)).setCell ⟨q, 31, none⟩ (.pointer (some ⟨s, 0, none⟩))).setCell ⟨q, 32, none⟩ (.bool true)) q (peerC x ⟨q, f0.p, b, s', g', A', k'', .pointer (some ⟨s', 0, none⟩), ts, d2⟩ true) 67 ∧ Ldk w0 (((W.setCells q 0 (ndC x ev)).setCell ⟨q, 31, none⟩ (.pointer (some ⟨s, 0, none⟩))).setCell ⟨q, 32, none⟩ (.bool true)) f0.p b d2 ∧ EntsB 0 (((W.setCells q 0 (ndC x ev)).setCell ⟨q, 31, none⟩ (.pointer (some ⟨s, 0, none⟩))).setCell ⟨q, 32, none⟩ (.bool true)) (.slice A' es.length k'') es ∧ kSt (((W.setCells q 0 (ndC x ev)).setCell ⟨q, 31, none⟩ (.pointer (some ⟨s, 0, none⟩))).setCell ⟨q, 32, none⟩ (.bool true)) s' g' ∧ Lg (((W.setCells q 0 (ndC x ev)).setCell ⟨q, 31, none⟩ (.pointer (some ⟨s, 0, none⟩))).setCell ⟨q, 32, none⟩ (.bool true)) g' f0.p ⟨RAFT, ts.length, false⟩ ∧ w.heap.size ≤ s' ∧ w.heap.size ≤ g' ∧ Apart [q, f0.p, b] w (((W.setCells q 0 (ndC x ev)).setCell ⟨q, 31, none⟩ (.pointer (some ⟨s, 0, none⟩))).setCell ⟨q, 32, none⟩ (.bool true)) := by
    intro W hb
    have hv := (hb.block _ hblk3.lt).trans hblk3
    have hv : Vb W q (peerC x0 f0 false) 67 := hv
    have h1 := Vb.cellsAt (ndC x ev) 0 _ _ hv (by rw [hl33, hl30]; decide)
    have e1 : (peerC x0 f0 false).take 0 ++ ndC x ev ++ (peerC x0 f0 false).drop (0 + (ndC x ev).length) = ndC x ev ++ [dptr f0.p, f0.sv, .bool false] := by
      have hlx := HLX.out
      rw [hl30, List.take_zero, List.nil_append, Nat.zero_add]
      unfold peerC
      rw [List.drop_append_of_le_length (by omega), List.drop_of_length_le (by omega), List.nil_append]
    rw [e1] at h1
    have h2 := (h1.set 31 (.pointer (some ⟨s, 0, none⟩))).set 32 (.bool true)
    have e2 : ((ndC x ev ++ [dptr f0.p, f0.sv, .bool false]).set 31 (.pointer (some ⟨s, 0, none⟩))).set 32 (.bool true) = peerC x ⟨q, f0.p, b, s, g, A, k', .pointer (some ⟨s, 0, none⟩), ts, d2⟩ true := by
      rw [List.set_append_right _ _ (by omega), hl30, List.set_append_right _ _ (by omega), hl30]
      unfold peerC Fp.ev
      dsimp only
      rw [HXL.out, HEV.out]
      rfl
    rw [e2] at h2
    have hAq : Apart [q] W (((W.setCells q 0 (ndC x ev)).setCell ⟨q, 31, none⟩ (.pointer (some ⟨s, 0, none⟩))).setCell ⟨q, 32, none⟩ (.bool true)) := ((apart_cells q (ndC x ev) 0 W).trans (Apart.setCell _ q 31 _)).trans (Apart.setCell _ q 32 _)
    obtain ⟨d2h, hA2, hg2, hs2, hk2, hl2, hE2⟩ := HP2.out
    have hbW := hb3.trans (hb.mono hb3.size)
    have hdW := d2h.later hbW
    have hkW : Vb W s _ _ := (hbW.block _ (Vb.lt hk2)).trans hk2
    have hlW : Vb W g _ _ := (hbW.block _ (Vb.lt hl2)).trans hl2
    have hqn : ∀ y ∈ [q], NotEnt W y := fun y hy => by
      obtain rfl : y = q := by simpa using hy
      exact notEnt_of hv (by decide)
    have hAll : Apart [q, f0.p, b] w (((W.setCells q 0 (ndC x ev)).setCell ⟨q, 31, none⟩ (.pointer (some ⟨s, 0, none⟩))).setCell ⟨q, 32, none⟩ (.bool true)) :=
      ((hA13.trans (Apart.of_below hb _)).mono (fun y hy => List.mem_cons_of_mem _ hy)).trans (hAq.mono (fun y hy => by simp at hy ⊢; exact .inl hy))
    refine ⟨hv.there (by rw [hl33, List.size_toArray, hl30]; decide), h1.cell 31 _ (by rw [List.getElem?_append_right (by omega), hl30]; rfl), h1.cell 32 _ (by rw [List.getElem?_append_right (by omega), hl30]; rfl), Blk.free h1 31, Blk.free h1 32, s, g, A, k', h2, ?_, (hE2.later hbW).apart hAq hqn, Vb.apart hkW hAq (fun hx => ne_of_type hkW hv (by decide) (by simpa using hx)), Vb.apart hlW hAq (fun hx => ne_of_type hlW hv (by decide) (by simpa using hx)), Nat.le_trans HA1.out.size hs2, Nat.le_trans HA1.out.size hg2, hAll⟩
    exact hdW.next hAq HQ0.out (hdW.dk.apart hAq (by simp; exact fun e => HNE.out.1 e.symm) (by simp; exact fun e => HNE.out.2.1 e.symm)) hdW.ok rfl
  have HFIN := Lib.hid hfin
  have HS6 : Hid ((ndC x ev).toArray.size = 30) := Lib.hid (by rw [List.size_toArray, hl30])
  have HOE := Lib.hid hone
  have HN : Hid (∀ W : World, Calls Tryz.prog 42 #[.int .i64 (i : Int), .int .i64 (n : Int), .agg #[.int .u64 (T : Int), .int .i64 V, ev]] W fun e w' => e = .returned (.tuple #[.agg (ndC x ev).toArray, .int .i64 0]) ∧ Below W.heap.size W w') := Lib.hid fun W => by
    have h := HNEW.out A k' W
    rw [HEV.out] at h
    exact h
  have hW : Below W3.heap.size W3 W3.drew := below_drewN (Below.refl _ W3) 1
  clear hs3 hb3 hW3 hbs hA12 hA13 hblk3 hcb3 hone hl30 hl33 hfin c0 cR c30 HP2 HD1 HA1 HNEW HH HON HOP HBLK HCB HDK HEV HXL HLX
  go_upto_region 10 with fail
  refine wp_region_held_drew (S := (fun w' => w'.cell? ⟨c, 0, none⟩ = some (.slice (some ⟨R, 0, none⟩) n k) ∧ w'.cell? ⟨bs, 0, none⟩ = some (.int .u64 (T : Int)) ∧ w'.cell? ⟨bs, 1, none⟩ = some (.int .i64 V) ∧ w'.cell? ⟨bs, 2, none⟩ = some ev)) (by kernel_rfl) (MK.out _ hW) (fun hHeld => ?_)
  (refine wpAnyH_take (i := 0) (v := ?_) (opsAt rfl) (by kernel_rfl) (by kernel_rfl) (by kernel_rfl) (fun _ _ _ h => h) (Or.inl ⟨by rfl, ?_⟩) (by assumption) ?_; rotate_left; focus (intro w hSw; (try dsimp only at hSw); go_simp; (try with_reducible rfl); done))
  (try simp only [Act.put, List.setIfInBounds_toArray, List.set_cons_zero, List.set_cons_succ])
  (refine wpAnyH_take (i := 1) (v := ?_) (opsAt rfl) (by kernel_rfl) (by kernel_rfl) (by kernel_rfl) (fun _ _ _ h => h) (Or.inl ⟨by rfl, ?_⟩) (by assumption) ?_; rotate_left; focus (intro w hSw; (try dsimp only at hSw); go_simp; (try with_reducible rfl); done))
  (try simp only [Act.put, List.setIfInBounds_toArray, List.set_cons_zero, List.set_cons_succ])
  (refine wpAnyH_take (i := 2) (v := ?_) (opsAt rfl) (by kernel_rfl) (by kernel_rfl) (by kernel_rfl) (fun _ _ _ h => h) (Or.inl ⟨by rfl, ?_⟩) (by assumption) ?_; rotate_left; focus (intro w hSw; (try dsimp only at hSw); go_simp; (try with_reducible rfl); done))
  (try simp only [Act.put, List.setIfInBounds_toArray, List.set_cons_zero, List.set_cons_succ])
  (refine wpAnyH_take (i := 3) (v := ?_) (opsAt rfl) (by kernel_rfl) (by kernel_rfl) (by kernel_rfl) (fun _ _ _ h => h) (Or.inl ⟨by rfl, ?_⟩) (by assumption) ?_; rotate_left; focus (intro w hSw; (try dsimp only at hSw); go_simp; (try with_reducible rfl); done))
  (try simp only [Act.put, List.setIfInBounds_toArray, List.set_cons_zero, List.set_cons_succ])
  (refine wpAnyH_take (i := 4) (v := ?_) (opsAt rfl) (by kernel_rfl) (by kernel_rfl) (by kernel_rfl) (fun _ _ _ h => h) (Or.inl ⟨by rfl, ?_⟩) (by assumption) ?_; rotate_left; focus (intro w hSw; (try dsimp only at hSw); go_simp; (try with_reducible rfl); done))
  (try simp only [Act.put, List.setIfInBounds_toArray, List.set_cons_zero, List.set_cons_succ])
  (refine wpAnyH_take (i := 5) (v := ?_) (opsAt rfl) (by kernel_rfl) (by kernel_rfl) (by kernel_rfl) (fun _ _ _ h => h) (Or.inl ⟨by rfl, ?_⟩) (by assumption) ?_; rotate_left; focus (intro w hSw; (try dsimp only at hSw); go_simp; (try with_reducible rfl); done))
  (try simp only [Act.put, List.setIfInBounds_toArray, List.set_cons_zero, List.set_cons_succ])
  (refine wpAnyH_take (i := 6) (v := ?_) (opsAt rfl) (by kernel_rfl) (by kernel_rfl) (by kernel_rfl) (fun _ _ _ h => h) (Or.inl ⟨by rfl, ?_⟩) (by assumption) ?_; rotate_left; focus (intro w hSw; (try dsimp only at hSw); go_simp; (try with_reducible rfl); done))
  (try simp only [Act.put, List.setIfInBounds_toArray, List.set_cons_zero, List.set_cons_succ])
  refine wpAnyH_ready (rs := [7, 11]) (by kernel_rfl) (by simp) ?_
  refine (AllReadyH.cons (opsAt rfl) (fun K hK => ?_) (AllReadyH.cons (opsAt rfl) (fun K hK => ?_) AllReadyH.nil))
  · rw [if_pos (by rfl)]
    go_simp
    go_at_call 42
    refine (HN.out _).mono ?_
    rintro e w1 ⟨rfl, hb1⟩
    have HLD := Lib.hid (node_laid_after (w1 := w1) x ev)
    have HZ : Hid (Blk (w1.alloc (.cells #[.int .i64 0, .int .i64 0, .int .u64 0, .int .i64 0, .slice none 0 0, .int .i64 0, .int .i64 0, .int .u64 0, .int .i64 0, .bool false, .bool false, .bool false, .bool false, .bool false, .bool false, .bool false, .int .u64 0, .int .u64 0, .int .u64 0, .int .u64 0, .int .u64 0, .int .u64 0, .int .u64 0, .int .u64 0, .int .u64 0, .int .u64 0, .int .u64 0, .int .u64 0, .int .u64 0, .int .u64 0] 50)) w1.heap.size (ndC zeroN nilV) 50) := Lib.hid (Blk.new w1 _ _)
    have hW := hW.trans (hb1.mono hW.size)
    have hWF := hW.trans (HLD.out.2.mono hW.size)
    dsimp only
    refine hK.out _ _ (MK.out _ hW) (fun hHeld => ?_)
    clear hK K
    (try simp only [Act.put, List.setIfInBounds_toArray, List.set_cons_zero, List.set_cons_succ])
    (refine wpAnyH_take (i := 8) (v := ?_) (opsAt rfl) (by kernel_rfl) (by kernel_rfl) (by kernel_rfl) (fun _ _ _ h => h) (Or.inl ⟨by rfl, ?_⟩) (by assumption) ?_; rotate_left; focus (intro w hSw; (try dsimp only at hSw); go_simp; (try with_reducible rfl); done))
    (try simp only [Act.put, List.setIfInBounds_toArray, List.set_cons_zero, List.set_cons_succ])
    (refine wpAnyH_take (i := 9) (v := ?_) (opsAt rfl) (by kernel_rfl) (by kernel_rfl) (by kernel_rfl) (fun _ _ _ h => h) (Or.inl ⟨by rfl, ?_⟩) (by assumption) ?_; rotate_left; focus (intro w hSw; (try dsimp only at hSw); go_simp; (try with_reducible rfl); done))
    (try simp only [Act.put, List.setIfInBounds_toArray, List.set_cons_zero, List.set_cons_succ])
    (refine wpAnyH_take (i := 10) (v := ?_) (opsAt rfl) (by kernel_rfl) (by kernel_rfl) (by kernel_rfl) (fun _ _ _ h => h) (Or.inl ⟨by rfl, ?_⟩) (by assumption) ?_; rotate_left; focus (intro w hSw; (try dsimp only at hSw); go_simp; (try with_reducible rfl); done))
    (try simp only [Act.put, List.setIfInBounds_toArray, List.set_cons_zero, List.set_cons_succ])
    refine wpAnyH_ready (rs := [11]) (by kernel_rfl) (by simp) ?_
    refine (AllReadyH.cons (opsAt rfl) (fun K hK => ?_) AllReadyH.nil)
    rw [if_pos (by rfl)]
    go_simp
    have hW := hW.trans (((Below.refl _ w1).alloc (Nat.le_refl _) (.cells #[.int .i64 0, .int .i64 0, .int .u64 0, .int .i64 0, .slice none 0 0, .int .i64 0, .int .i64 0, .int .u64 0, .int .i64 0, .bool false, .bool false, .bool false, .bool false, .bool false, .bool false, .bool false, .int .u64 0, .int .u64 0, .int .u64 0, .int .u64 0, .int .u64 0, .int .u64 0, .int .u64 0, .int .u64 0, .int .u64 0, .int .u64 0, .int .u64 0, .int .u64 0, .int .u64 0, .int .u64 0] 50)).mono hW.size)
    (try dsimp only)
    refine hK.out _ _ (MK.out _ hW) (fun hHeld => ?_)
    clear hK K
    (try simp only [Act.put, List.setIfInBounds_toArray, List.set_cons_zero, List.set_cons_succ])
    refine wpAnyH_ready (rs := [12]) (by kernel_rfl) (by simp) ?_
    refine (AllReadyH.cons (opsAt rfl) (fun K hK => ?_) AllReadyH.nil)
    rw [if_pos (by rfl)]
    refine wp_store_row 50 _ _ rfl _ _ rfl rfl _ _ HZ.out (by rw [node_size, HS6.out]) (by rw [HS6.out]; rfl) (ndC_one HOE.out) ?_
    (try simp only [Act.put])
    refine hK.out _ _ (MK.out _ hWF) (fun hHeld => ?_)
    clear hK K
    (try simp only [Act.put, List.setIfInBounds_toArray, List.set_cons_zero, List.set_cons_succ])
    (refine wpAnyH_take (i := 13) (v := ?_) (opsAt rfl) (by kernel_rfl) (by kernel_rfl) (by kernel_rfl) (fun _ _ _ h => h) (Or.inl ⟨by rfl, ?_⟩) (by assumption) ?_; rotate_left; focus (intro w hSw; (try dsimp only at hSw); go_simp; (try with_reducible rfl); done))
    (try simp only [Act.put, List.setIfInBounds_toArray, List.set_cons_zero, List.set_cons_succ])
    refine wpAnyH_done (by kernel_rfl) ?_ _
    obtain ⟨bn, hbn⟩ : ∃ b, w1.heap.size = b := ⟨_, rfl⟩
    have hLD1 := HLD.out.1
    rw [hbn] at hLD1 hWF ⊢
    obtain ⟨W, hWW⟩ : ∃ W, (w1.alloc (.cells #[.int .i64 0, .int .i64 0, .int .u64 0, .int .i64 0, .slice none 0 0, .int .i64 0, .int .i64 0, .int .u64 0, .int .i64 0, .bool false, .bool false, .bool false, .bool false, .bool false, .bool false, .bool false, .int .u64 0, .int .u64 0, .int .u64 0, .int .u64 0, .int .u64 0, .int .u64 0, .int .u64 0, .int .u64 0, .int .u64 0, .int .u64 0, .int .u64 0, .int .u64 0, .int .u64 0, .int .u64 0] 50)).setRow bn (ndC x ev).toArray = W := ⟨_, rfl⟩
    rw [hWW] at hLD1 hWF ⊢
    have HBK := Lib.hid hLD1
    clear hHeld hW hb1 HZ hbn hWW HLD hLD1
    have hF := HFIN.out W hWF
    have HTH := Lib.hid hF.1
    have HC31 := Lib.hid hF.2.1
    have HC32 := Lib.hid hF.2.2.1
    have HF31 := Lib.hid hF.2.2.2.1
    have HF32 := Lib.hid hF.2.2.2.2.1
    have HEND := Lib.hid hF.2.2.2.2.2
    clear hF hWF
    go_wp2_with (first | (refine wpList_load_row rfl 50 _ rfl bn rfl _ _ _ _ HBK.out Tryz.underlying50 rfl (by rw [node_size, HS6.out]) ?_) | (refine wpList_store_mid rfl 50 (.tmp 70) (.tmp 67) rfl q 0 (ndC x ev).toArray rfl rfl HTH.out (by rw [node_size, HS6.out]) (ndC_one HOE.out) ?_; have c31 := HC31.out; have c32 := HC32.out; have f31 := HF31.out; have f32 := HF32.out))
    go_ret
    exact ⟨rfl, HEND.out⟩
  · rw [if_pos (by rfl)]
    go_simp
    have hbz := (Below.refl _ W3.drew).alloc (Nat.le_refl _) (.cells #[.int .i64 0, .int .i64 0, .int .u64 0, .int .i64 0, .slice none 0 0, .int .i64 0, .int .i64 0, .int .u64 0, .int .i64 0, .bool false, .bool false, .bool false, .bool false, .bool false, .bool false, .bool false, .int .u64 0, .int .u64 0, .int .u64 0, .int .u64 0, .int .u64 0, .int .u64 0, .int .u64 0, .int .u64 0, .int .u64 0, .int .u64 0, .int .u64 0, .int .u64 0, .int .u64 0, .int .u64 0] 50)
    have hZ0 : Blk (W3.drew.alloc (.cells #[.int .i64 0, .int .i64 0, .int .u64 0, .int .i64 0, .slice none 0 0, .int .i64 0, .int .i64 0, .int .u64 0, .int .i64 0, .bool false, .bool false, .bool false, .bool false, .bool false, .bool false, .bool false, .int .u64 0, .int .u64 0, .int .u64 0, .int .u64 0, .int .u64 0, .int .u64 0, .int .u64 0, .int .u64 0, .int .u64 0, .int .u64 0, .int .u64 0, .int .u64 0, .int .u64 0, .int .u64 0] 50)) W3.drew.heap.size (ndC zeroN nilV) 50 := Blk.new W3.drew _ _
    have hW0 := hW
    have hW := hW.trans (hbz.mono hW.size)
    (try dsimp only)
    refine hK.out _ _ (MK.out _ hW) (fun hHeld => ?_)
    clear hK K
    (try simp only [Act.put, List.setIfInBounds_toArray, List.set_cons_zero, List.set_cons_succ])
    refine wpAnyH_ready (rs := [7]) (by kernel_rfl) (by simp) ?_
    refine (AllReadyH.cons (opsAt rfl) (fun K hK => ?_) AllReadyH.nil)
    rw [if_pos (by rfl)]
    go_simp
    go_at_call 42
    refine (HN.out _).mono ?_
    rintro e w1 ⟨rfl, hb1⟩
    have HZ : Hid (Blk w1 W3.heap.size (ndC zeroN nilV) 50) := Lib.hid (hZ0.below hb1)
    have HLD := Lib.hid (node_laid_before (base := W3.heap.size) (bn := W3.heap.size) HZ.out (Nat.le_refl _) x ev)
    have hW := hW.trans (hb1.mono hW.size)
    have hWF := hW.trans HLD.out.2
    dsimp only
    refine hK.out _ _ (MK.out _ hW) (fun hHeld => ?_)
    clear hK K
    (try simp only [Act.put, List.setIfInBounds_toArray, List.set_cons_zero, List.set_cons_succ])
    (refine wpAnyH_take (i := 8) (v := ?_) (opsAt rfl) (by kernel_rfl) (by kernel_rfl) (by kernel_rfl) (fun _ _ _ h => h) (Or.inl ⟨by rfl, ?_⟩) (by assumption) ?_; rotate_left; focus (intro w hSw; (try dsimp only at hSw); go_simp; (try with_reducible rfl); done))
    (try simp only [Act.put, List.setIfInBounds_toArray, List.set_cons_zero, List.set_cons_succ])
    (refine wpAnyH_take (i := 9) (v := ?_) (opsAt rfl) (by kernel_rfl) (by kernel_rfl) (by kernel_rfl) (fun _ _ _ h => h) (Or.inl ⟨by rfl, ?_⟩) (by assumption) ?_; rotate_left; focus (intro w hSw; (try dsimp only at hSw); go_simp; (try with_reducible rfl); done))
    (try simp only [Act.put, List.setIfInBounds_toArray, List.set_cons_zero, List.set_cons_succ])
    (refine wpAnyH_take (i := 10) (v := ?_) (opsAt rfl) (by kernel_rfl) (by kernel_rfl) (by kernel_rfl) (fun _ _ _ h => h) (Or.inl ⟨by rfl, ?_⟩) (by assumption) ?_; rotate_left; focus (intro w hSw; (try dsimp only at hSw); go_simp; (try with_reducible rfl); done))
    (try simp only [Act.put, List.setIfInBounds_toArray, List.set_cons_zero, List.set_cons_succ])
    refine wpAnyH_ready (rs := [12]) (by kernel_rfl) (by simp) ?_
    refine (AllReadyH.cons (opsAt rfl) (fun K hK => ?_) AllReadyH.nil)
    rw [if_pos (by rfl)]
    refine wp_store_row 50 _ _ rfl _ _ rfl rfl _ _ HZ.out (by rw [node_size, HS6.out]) (by rw [HS6.out]; rfl) (ndC_one HOE.out) ?_
    (try simp only [Act.put])
    refine hK.out _ _ (MK.out _ hWF) (fun hHeld => ?_)
    clear hK K
    (try simp only [Act.put, List.setIfInBounds_toArray, List.set_cons_zero, List.set_cons_succ])
    (refine wpAnyH_take (i := 13) (v := ?_) (opsAt rfl) (by kernel_rfl) (by kernel_rfl) (by kernel_rfl) (fun _ _ _ h => h) (Or.inl ⟨by rfl, ?_⟩) (by assumption) ?_; rotate_left; focus (intro w hSw; (try dsimp only at hSw); go_simp; (try with_reducible rfl); done))
    (try simp only [Act.put, List.setIfInBounds_toArray, List.set_cons_zero, List.set_cons_succ])
    refine wpAnyH_done (by kernel_rfl) ?_ _
    have hLD1 := HLD.out.1
    obtain ⟨W, hWW⟩ : ∃ W, w1.setRow W3.heap.size (ndC x ev).toArray = W := ⟨_, rfl⟩
    rw [hWW] at hLD1 hWF ⊢
    have HBK := Lib.hid hLD1
    clear hHeld hW hW0 hbz hZ0 hb1 HZ hWW HLD hLD1
    have hF := HFIN.out W hWF
    have HTH := Lib.hid hF.1
    have HC31 := Lib.hid hF.2.1
    have HC32 := Lib.hid hF.2.2.1
    have HF31 := Lib.hid hF.2.2.2.1
    have HF32 := Lib.hid hF.2.2.2.2.1
    have HEND := Lib.hid hF.2.2.2.2.2
    clear hF hWF
    go_wp2_with (first | (refine wpList_load_row rfl 50 _ rfl W3.heap.size rfl _ _ _ _ HBK.out Tryz.underlying50 rfl (by rw [node_size, HS6.out]) ?_) | (refine wpList_store_mid rfl 50 (.tmp 70) (.tmp 67) rfl q 0 (ndC x ev).toArray rfl rfl HTH.out (by rw [node_size, HS6.out]) (ndC_one HOE.out) ?_; have c31 := HC31.out; have c32 := HC32.out; have f31 := HF31.out; have f32 := HF32.out))
    go_ret
    exact ⟨rfl, HEND.out⟩
end Go.Proofs.YtmcibggjolckoaaGreatDoor
namespace Go.Proofs.YtmcibggjolckoaaGreatDoor
open Go Go.RowKit Go.Deep
set_option maxRecDepth 100000
section
variable {B : Nat} {w0 w : World} {c R : Nat} {C : cl.Clu} {F : Nat → Fp} {k : Nat} {wv : Value}
theorem start_out {i : Int} (h : CluAt B w0 w c R C F k wv) (hi : ¬ (0 ≤ i ∧ i < (C.n : Int))) :
    Calls Tryz.prog 22 #[cptr c, .int .i64 i] w fun e w' => e = .returned (.int .i64 1) ∧ Below w.heap.size w w' := by
  have H := Lib.hid (has_no h hi)
  clear h hi
  unfold cptr at H ⊢
  go_enter Tryz.func22, Tryz.ntmps22
  go_wp2_with (go_at_call 37; refine H.out.mono ?_; rintro e w1 ⟨rfl, hb1⟩)
  go_ret
  exact ⟨rfl, hb1⟩
theorem start_up {i : Nat} (h : CluAt B w0 w c R C F k wv) (hi : i < C.n) (hu : (C.p i).up = true) :
    Calls Tryz.prog 22 #[cptr c, .int .i64 (i : Int)] w fun e w' => e = .returned (.int .i64 5) ∧ Below w.heap.size w w' := by
  have H := Lib.hid (has_yes h hi)
  have K : Hid (∀ w', Below w.heap.size w w' → w'.cell? ⟨c, 0, none⟩ = some (.slice (some ⟨R, 0, none⟩) C.n k) ∧ w'.cell? ⟨R, i, none⟩ = some (.pointer (some ⟨(F i).q, 0, none⟩)) ∧ w'.cell? ⟨(F i).q, 32, none⟩ = some (.bool true)) := Lib.hid fun w' hb => ⟨(h.later hb).c0, (h.later hb).at_ hi, by rw [← hu]; exact (h.later hb).upc hi⟩
  obtain ⟨q, hq⟩ : ∃ q, (F i).q = q := ⟨_, rfl⟩
  obtain ⟨n, hn⟩ : ∃ n, C.n = n := ⟨_, rfl⟩
  rw [hq, hn] at K
  rw [hn] at hi
  have hin : (i : Int) < (n : Int) := by omega
  clear h hq hn hu
  unfold cptr at H ⊢
  go_enter Tryz.func22, Tryz.ntmps22
  go_wp2_with (go_at_call 37; refine H.out.mono ?_; rintro e w1 ⟨rfl, hb1⟩; obtain ⟨k0, k1, k2⟩ := K.out w1 hb1)
  go_ret
  exact ⟨rfl, hb1⟩
theorem CluAt.stay3' {i : Nat} (h : CluAt B w0 w c R C F k wv) (hi : i < C.n) {w' : World} (hA : Apart [(F i).q, (F i).p, (F i).b] w w') : Stay F C.n w w' :=
  Stay.of_apart hA fun y hy => by
    simp only [List.mem_cons, List.not_mem_nil, or_false] at hy
    rcases hy with e | e | e
    · rw [e]; exact .inl ⟨_, _, (h.peers i hi).blk, .inl rfl⟩
    · rw [e]; exact .inl ⟨_, _, (h.peers i hi).disk.dk.blk, .inr (.inl rfl)⟩
    · exact .inr ⟨i, hi, e⟩
theorem RAFT_open : wl.openE RAFT = true := RAFT_ok
theorem start_yes {i : Nat} (h : CluAt B w0 w c R C F k wv) (hi : i < C.n) (hd : (C.p i).up = false) (ht : TabAt w0) :
    Calls Tryz.prog 22 #[cptr c, .int .i64 (i : Int)] w fun e w' => e = .returned (.int .i64 0) ∧ ∃ F', CluAt B w0 w' c R (cl.started C i) F' k wv ∧ FpTo F F' i ∧ (F' i).d.left = 0 ∧ Stay F C.n w w' := by
  have pi := h.peers i hi
  have hk := pi.kept
  obtain ⟨us, r1, r2⟩ := h.row
  have hop := wl.two_open (c := (F i).d.cap) (k := (F i).d.keep) RAFT_open hk.wide hk.two
  have hblk := pi.blk
  rw [hd] at hblk
  refine (start_core h.blk r1 (r2 i hi) hi h.n7 hblk rfl pi.hq pi.ok pi.disk ht hop hk.frm hk.many (fun t hm => by have := hk.wide t hm; unfold maxLen; omega)).mono ?_
  rintro e w' ⟨rfl, s, g, A, k', hv, hd', hE, hs, hg, h1, h2, hA⟩
  refine ⟨rfl, _, h.peer hi hA (fun y hy => ?_) (P := ⟨(C.p i).s, true, rf.new (i : Int) (C.n : Int) (C.p i).s.t (C.p i).s.v (C.p i).s.l⟩) (f := ⟨(F i).q, (F i).p, (F i).b, s, g, A, k', .pointer (some ⟨s, 0, none⟩), (F i).a, ⟨(F i).d.cap, (F i).d.files, false, 0, (F i).d.keep⟩⟩) ?_ ⟨rfl, rfl, rfl⟩ (fun _ => .inr ⟨h1, h2⟩), ?_, ?_, h.stay3' hi hA⟩
  · simp only [List.mem_cons, List.not_mem_nil, or_false] at hy
    rcases hy with e | e | e
    · exact .inl e
    · exact .inr (.inl e)
    · exact .inr (.inr (.inl e))
  · have hb := h.bel.size
    exact ⟨hv, hE, ⟨rfl, rfl, rfl, by intro y hy; simp [rf.new] at hy; omega, by intro y hy; simp [rf.new] at hy; omega⟩, hd', pi.hq, ⟨hk.wide, hk.frm, hk.two, hk.flat, hk.many, hk.cap⟩, ⟨_, rfl⟩, fun _ => ⟨rfl, rfl, hs, hg, by show w0.heap.size ≤ g; omega, by show w0.heap.size ≤ s; omega⟩⟩
  · exact ⟨fun j hj => cl.upd_other _ _ hj, by rw [cl.upd_same], by rw [cl.upd_same], by rw [cl.upd_same], by rw [cl.upd_same], fun _ => by rw [cl.upd_same]⟩
  · rw [cl.upd_same]
end
end Go.Proofs.YtmcibggjolckoaaGreatDoor
