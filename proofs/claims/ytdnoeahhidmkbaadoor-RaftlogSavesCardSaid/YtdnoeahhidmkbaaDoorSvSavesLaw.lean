/- RaftlogSaves walked: whatever comes in, it returns true. -/
import Derived.Deep.RegionLaw
import Derived.Deep.RegionHeld3
import Derived.Deep.DeepCutAuto
import Derived.Deep.CutRange
import Derived.Test.YtdnoeahhidmkbaaDoorSvShown
import Derived.Test.YtdnoeahhidmkbaaDoorSvCut
import Derived.Test.YtdnoeahhidmkbaaDoorSvSave
namespace Go.Proofs.YtdnoeahhidmkbaaDoor
open Go Go.RowKit
set_option maxRecDepth 100000

section
variable {w0 w : World} {p b : Nat} {d : vd.Disk}
theorem ld_fuse (n k : Int) (h : Ldk w0 w p b d) (hn : n ≤ 9223372036854775807) :
    Calls Tryd.prog 18 #[.pointer (some ⟨p, 0, none⟩), .int .i64 n, .int .i64 k] w (fun e w' => e = .returned (.tuple #[]) ∧ Ldk w0 w' p b { d with left := (max n 0).toNat, keep := k } ∧ Apart [p] w w') :=
  (vd_fuse h.dk n k).mono (by
    rintro e w' ⟨h1, h2, h3⟩
    exact ⟨h1, h.next h3 (by have := h.hp; simp; omega) h2 ⟨h.ok.cap, h.ok.tot, h.ok.nod, h.ok.syn, h.ok.nam, by show (max n 0).toNat ≤ _; omega⟩ rfl, h3⟩)
theorem ld_on (h : Ldk w0 w p b d) :
    Calls Tryd.prog 19 #[.pointer (some ⟨p, 0, none⟩)] w (fun e w' => e = .returned (.tuple #[]) ∧ Ldk w0 w' p b { d with off := false, left := 0 } ∧ Apart [p] w w') :=
  (vd_on h.dk).mono (by
    rintro e w' ⟨h1, h2, h3⟩
    exact ⟨h1, h.next h3 (by have := h.hp; simp; omega) h2 ⟨h.ok.cap, h.ok.tot, h.ok.nod, h.ok.syn, h.ok.nam, by show 0 ≤ _; omega⟩ rfl, h3⟩)
end
namespace Sv
theorem texts_flat (T : Nat) (V : Int) (es : List rl.Ent) (h : okEnts es = true) : (Go.Proofs.YtdnoeahhidmkbaaDoor.crcm.flat (rl.texts T V es)).length ≤ 20000 ∧ (∀ t ∈ rl.texts T V es, t.length ≤ 65535) ∧ es.length ≤ 60 ∧ (∀ t ∈ es, t.2.length ≤ 200) := by
  unfold okEnts at h
  rw [Bool.and_eq_true, decide_eq_true_eq, List.all_eq_true] at h
  obtain ⟨h1, h2⟩ := h
  have h2 : ∀ t ∈ es, t.2.length ≤ 200 := fun t ht => by simpa using h2 t ht
  have hx : ∀ t ∈ rl.texts T V es, t.length ≤ 208 := by
    intro t ht
    unfold rl.texts at ht
    rcases List.mem_cons.1 ht with rfl | h
    · exact (show 9 ≤ 208 by omega)
    · obtain ⟨x, hx, rfl⟩ := List.mem_map.1 h
      have := h2 x hx
      unfold rl.enc
      rw [List.length_append, rl.le8_len]
      omega
  refine ⟨?_, fun t ht => by have := hx t ht; omega, h1, h2⟩
  have hl : (rl.texts T V es).length = es.length + 1 := by unfold rl.texts; simp
  have hg : ∀ ls : List (List UInt8), (∀ t ∈ ls, t.length ≤ 208) → (Go.Proofs.YtdnoeahhidmkbaaDoor.crcm.flat ls).length ≤ 214 * ls.length := by
    intro ls
    induction ls with
    | nil => intro _; simp [Go.Proofs.YtdnoeahhidmkbaaDoor.crcm.flat]
    | cons t r ih =>
      intro h
      have := ih (fun x hx => h x (by simp [hx]))
      have := h t (by simp)
      rw [Go.Proofs.YtdnoeahhidmkbaaDoor.crcm.flat_cons, List.length_append, Go.Proofs.YtdnoeahhidmkbaaDoor.crcm.body_len, List.length_cons]
      omega
  have := hg _ hx
  rw [hl] at this
  omega
end Sv
/-- what the loop holds -/
structure Held (w0 w : World) (p q g s lb : Nat) (a : List (List UInt8)) (T : Nat) (V : Int) (u : Value) (es : List Sv.rl.Ent) (M : vd.Files) (kp : Int) : Prop where
  disk : Ldk w0 w p q ⟨10000000, M, false, 0, kp⟩
  log : Lg w g p ⟨RAFT, a.length, false⟩
  st : St w s g
  box : Vb w lb [.int .u64 (T : Int), .int .i64 V, u] 61
  ents : Sv.Ents w u es
  gb : w0.heap.size ≤ g
  lbb : w0.heap.size ≤ lb
  two : wl.Two RAFT (crcm.flat a) 20000 M
  fl : (crcm.flat a).length ≤ 20000
  all : ∀ t ∈ a, t.length ≤ 65535
  fr : Sv.rl.from_ a = ((T, V, es), 0)
  len : a.length ≤ 61
  ne : es.length ≤ 60
  np : lb ≠ p
  nq : lb ≠ q
  ng : lb ≠ g
  sp : s ≠ p
theorem Held.later {w0 w w' : World} {p q g s lb : Nat} {a : List (List UInt8)} {T : Nat} {V : Int} {u : Value} {es : List Sv.rl.Ent} {M : vd.Files} {kp : Int} (h : Held w0 w p q g s lb a T V u es M kp) (hb : Below w.heap.size w w') : Held w0 w' p q g s lb a T V u es M kp :=
  ⟨h.disk.later hb, (hb.block _ (Vb.lt h.log)).trans h.log, (hb.block _ (Vb.lt h.st)).trans h.st, (hb.block _ h.box.lt).trans h.box, h.ents.below hb, h.gb, h.lbb, h.two, h.fl, h.all, h.fr, h.len, h.ne, h.np, h.nq, h.ng, h.sp⟩
set_option maxHeartbeats 8000000 in
theorem saves_long (v : Value) (l : List LSt) (n : Nat) (keep : Int) (w : World) (hv : Sts w v l) (h : 8 < l.length) :
    Calls Tryd.prog 8 #[v, .int .u8 (n : Int), .int .i64 keep] w fun e w' => e = .returned (.bool true) ∧ Below w.heap.size w w' := by
  obtain ⟨A, c, rfl, _⟩ := hv
  have hi : (8 : Int) < (l.length : Int) := by omega
  have hs := Sv.shown_any w
  clear h
  go_enter Tryd.func8, Tryd.ntmps8
  go_wp2_with fail
  refine hs.mono ?_
  rintro e w1 ⟨rfl, hb⟩
  go_wp2_with fail
  go_ret
  exact ⟨rfl, hb⟩
set_option maxHeartbeats 16000000 in
theorem saves_few (v : Value) (l : List LSt) (n : Nat) (keep : Int) (w : World) (hn : n < 256) (hv : Sts w v l) (h : l.length ≤ 8) (ht : TabAt w) :
    Calls Tryd.prog 8 #[v, .int .u8 (n : Int), .int .i64 keep] w fun e w' => e = .returned (.bool true) ∧ Below w.heap.size w w' := by
  obtain ⟨A, c, rfl, _, hA⟩ := hv
  have hs := Sv.shown_any w
  obtain ⟨N, hN⟩ : ∃ N, l.length = N := ⟨_, rfl⟩
  rw [hN] at h hA ⊢
  have Q1 := Lib.hid (wl.st_new (c := 10000000) (k := 0) RAFT_ok (by omega))
  have HA : Hid (0 < N → ∃ b o, A = some ⟨b, o, none⟩ ∧ ∀ k, k < N → StAt w b (o + k * 3) (l.getD k default)) := Lib.hid hA
  have HT := Lib.hid ht
  have hni : ¬ (8 : Int) < (N : Int) := by omega
  clear hA ht hN
  go_enter Tryd.func8, Tryd.ntmps8
  go_wp2_with fail
  refine hs.mono ?_
  rintro e w1 ⟨rfl, hb1⟩
  clear hs
  go_wp2_with fail
  refine (ld_new 10000000 (by omega) hb1).mono ?_
  rintro e w2 ⟨p, q, rfl, hd2, hb2⟩
  have hO := raft_open hd2 HT.out Q1.out (T := 0) (V := -1) (es := []) rfl (by simp) (by simp)
  go_wp2_with fail
  refine hO.mono ?_
  rintro e w3 ⟨s, g, u, rfl, hd3, hA3, hg3, hs3, hst3, hl3, hE3⟩
  obtain ⟨Au, cu, rfl⟩ : ∃ A c, u = .slice A 0 c := hE3.form
  have hE3' : Sv.Ents w3 (.slice Au 0 cu) [] := hE3
  obtain ⟨W4, hW4⟩ : ∃ W, w3.alloc (.cells #[.int .u64 0, .int .i64 (-1), .slice Au 0 cu] 61) = W := ⟨_, rfl⟩
  have b4 : Below w3.heap.size w3 W4 := by rw [← hW4]; exact (Below.refl _ w3).alloc (Nat.le_refl _) _
  have s4 : W4.heap.size = w3.heap.size + 1 := by rw [← hW4]; exact Array.size_push _
  have x4 : Vb W4 w3.heap.size [.int .u64 0, .int .i64 (-1), .slice Au 0 cu] 61 := by rw [← hW4]; exact Vb.new w3 _ _
  obtain ⟨W5, hW5⟩ : ∃ W, W4.alloc (.cells #[.int .u64 0, .int .i64 (-1), .slice Au 0 cu] 61) = W := ⟨_, rfl⟩
  have b5 : Below W4.heap.size W4 W5 := by rw [← hW5]; exact (Below.refl _ W4).alloc (Nat.le_refl _) _
  have x5 : Vb W5 (w3.heap.size + 1) [.int .u64 0, .int .i64 (-1), .slice Au 0 cu] 61 := by rw [← hW5, ← s4]; exact Vb.new W4 _ _
  have hp3 := hd3.dk.blk.lt
  have hq3 := hd3.dk.map.lt
  have hgl3 := Vb.lt hl3
  have hp2 := hd2.dk.blk.lt
  have hheld : Held w W5 p q g s (w3.heap.size + 1) [] 0 (-1) (.slice Au 0 cu) [] [(RAFT, ([], 0))] 0 :=
    ⟨(hd3.later b4).later b5, (b5.block _ (Vb.lt ((b4.block _ hgl3).trans hl3))).trans ((b4.block _ hgl3).trans hl3), (b5.block _ (Vb.lt ((b4.block _ (Vb.lt hst3)).trans hst3))).trans ((b4.block _ (Vb.lt hst3)).trans hst3), x5, (hE3'.below b4).below b5,
      by have := hd2.bel.size; omega, by have := hd3.bel.size; omega, .inl rfl, Nat.zero_le _, (fun t ht => by cases ht), rfl, by simp, by simp, by omega, by omega, by omega, by omega⟩
  have z0 := x4.cell 0 _ rfl
  have z1 := x4.cell 1 _ rfl
  have z2 := x4.cell 2 _ rfl
  have HH := Lib.hid hheld
  clear hO hd2 hd3 hA3 hg3 hs3 hst3 hl3 hE3 hE3' b4 b5 hb2 x4 x5 hp2 hp3 hq3 hgl3 hheld hb1
  unfold Sv.stV
  go_wp2_with fail
  obtain ⟨lb, hlb⟩ : ∃ x, w3.heap.size + 1 = x := ⟨_, rfl⟩
  rw [hlb] at HH ⊢
  clear hlb z0 z1 z2 hW4 hW5 s4
  go_loopw [8, 12] (fun tv i wr => ∃ (k s g : Nat) (a : List (List UInt8)) (T : Nat) (V : Int) (u : Value) (es : List Sv.rl.Ent) (M : vd.Files) (kp : Int), k ≤ N ∧ i = .int .i64 k ∧ tv = .pointer (some ⟨s, 0, none⟩) ∧ Held w wr p q g s lb a T V u es M kp) (fun _ i _ => N - (intOf i).toNat)
  case atStart => exact ⟨0, s, g, _, _, _, _, _, _, _, Nat.zero_le _, rfl, rfl, HH.out⟩
  case round =>
    obtain ⟨k, s, g, a, T0, V0, u0, es0, M, kp, hk, rfl, rfl, hH⟩ := hrel
    have HH := Lib.hid hH
    have hbel := hH.disk.bel
    clear hH
    by_cases hlt : k < N
    · obtain ⟨b, o, rfl, hats⟩ := HA.out (by omega)
      have hax0 := hats k hlt
      obtain ⟨x, hx⟩ : ∃ x, l.getD k default = x := ⟨_, rfl⟩
      rw [hx] at hax0
      obtain ⟨T, V, u, es⟩ := x
      obtain ⟨A4, c4, rfl⟩ : ∃ A c, u = .slice A es.length c := hax0.ents.form
      have K3 : Hid (∀ w', Below w.heap.size w w' → StAt w' b (o + k * 3) ⟨T, V, .slice A4 es.length c4, es⟩) := Lib.hid fun w' h => hax0.below h
      have hax := K3.out wr hbel
      have k0 := hax.k0
      have k1 := hax.k1
      have k2 := hax.k2
      simp only at k0 k1 k2
      have hbd := Sv.bounded_any (.slice A4 es.length c4) es wr hax.ents hax.fine
      clear hats hax0 hx hax
      cases hok : Sv.okEnts es with
      | false =>
        rw [hok] at hbd
        clear hok
        go_wp2_with fail
        refine hbd.mono ?_
        rintro e w4 ⟨rfl, rfl⟩
        go_wp2_with fail
        refine (Sv.shown_any wr).mono ?_
        rintro e w5 ⟨rfl, b5⟩
        go_wp2_with fail
        go_ret
        exact ⟨rfl, hbel.trans (b5.mono hbel.size)⟩
      | true =>
        rw [hok] at hbd
        have HOK := Lib.hid hok
        clear hok
        by_cases hV : V < -1 ∨ 254 < V
        · have htb := Sv.texts_bad T V _ es wr (K3.out wr hbel).ents hV
          have HV := Lib.hid hV
          clear hV
          unfold Sv.stV at htb
          go_wp2_with fail
          refine hbd.mono ?_
          rintro e w4 ⟨rfl, rfl⟩
          clear hbd
          go_wp2_with fail
          refine htb.mono ?_
          rintro e w5 ⟨rfl, b5⟩
          have hbel5 := hbel.trans (b5.mono hbel.size)
          have hax := K3.out w5 hbel5
          have k0 := hax.k0
          have k1 := hax.k1
          have k2 := hax.k2
          simp only at k0 k1 k2
          have hsb := raft_save_bad (s := s) T V _ es hax.ents HV.out (w := w5)
          unfold Sv.stV at hsb
          have HB5 := Lib.hid b5
          clear htb b5 hax
          go_wp2_with fail
          refine hsb.mono ?_
          rintro e w6 ⟨rfl, b6⟩
          have hH6 := (HH.out.later HB5.out).later b6
          clear hsb
          go_wp2_with fail
          go_roundw
          case rel => exact ⟨k + 1, s, g, a, T0, V0, u0, es0, M, kp, by omega, by go_num, rfl, hH6⟩
          case measure => simp [intOf]; omega
        · have hax := K3.out wr hbel
          have hV2 : -1 ≤ V ∧ V ≤ 254 := by omega
          obtain ⟨f4, t4, n4, w4⟩ := Sv.texts_flat T V es HOK.out
          have hwr : Sv.Writable T es := ⟨hax.top, by omega, fun t ht => ⟨(hax.fine.2 t ht).1, by have := w4 t ht; omega⟩⟩
          have htb := Sv.texts_good T V _ es wr hax.ents hV2.1 hV2.2 hwr
          obtain ⟨M6, hM6⟩ : ∃ x, 6 * N = x := ⟨_, rfl⟩
          have hm6 : (6 : Int) * (N : Int) = (M6 : Int) := by omega
          have hm60 : (M6 : Int) ≠ 0 := by omega
          obtain ⟨jn, hjn⟩ : ∃ x, n % M6 = x := ⟨_, rfl⟩
          have hjl : jn < M6 := by rw [← hjn]; exact Nat.mod_lt _ (by omega)
          have hji : (n : Int).tmod (M6 : Int) = (jn : Int) := by rw [← hjn, Int.tmod_eq_emod_of_nonneg (by omega)]; simp
          obtain ⟨k4, hk4⟩ : ∃ x, 4 * k = x := ⟨_, rfl⟩
          have hki : (4 : Int) * (k : Int) = (k4 : Int) := by omega
          have hk4b : k4 ≤ 32 := by omega
          have hM6b : M6 ≤ 48 := by omega
          obtain ⟨j, hj⟩ : ∃ x, (max ((jn : Int) - (k4 : Int)) 0).toNat = x := ⟨_, rfl⟩
          obtain ⟨d2, l2, e2, hres, he, hnm, M3, ts, hop, hTwo3, hts⟩ := wl.reset_cut2 (c := 10000000) (k := keep) (n := RAFT) (a := a) (b := Sv.rl.texts T V es) (l := ⟨RAFT, a.length, false⟩) (B := 20000) (M := M) j rfl rfl RAFT_ok HH.out.all t4 HH.out.two f4 (by have := HH.out.fl; omega)
          obtain ⟨Tx, Vx, Lx, hfr, hX⟩ : ∃ Tx Vx Lx, Sv.rl.from_ ts = ((Tx, Vx, Lx), 0) ∧ ((Tx = T ∧ Vx = V ∧ Lx = es) ∨ (e2 = 6 ∧ Tx = T0 ∧ Vx = V0 ∧ Lx = es0)) := by
            rcases hts with rfl | ⟨h6, rfl⟩
            · exact ⟨T, V, es, Sv.rl.from_texts T V es hwr.1 hV2.1 hV2.2 hwr.2.2, .inl ⟨rfl, rfl, rfl⟩⟩
            · exact ⟨T0, V0, es0, HH.out.fr, .inr ⟨h6, rfl, rfl, rfl⟩⟩
          have htl : ts.length ≤ 61 ∧ (∀ t ∈ ts, t.length ≤ 65535) ∧ (crcm.flat ts).length ≤ 20000 := by
            rcases hts with rfl | ⟨_, rfl⟩
            · exact ⟨by unfold Sv.rl.texts; rw [List.length_cons, List.length_map]; omega, t4, f4⟩
            · exact ⟨HH.out.len, HH.out.all, HH.out.fl⟩
          have hLx : Lx.length ≤ 60 := by
            rcases hX with ⟨_, _, rfl⟩ | ⟨_, _, _, rfl⟩
            · exact n4
            · exact HH.out.ne
          have HRES := Lib.hid hres
          have HE := Lib.hid he
          have HOP := Lib.hid hop
          have HTWO := Lib.hid hTwo3
          have HFR := Lib.hid hfr
          have HX := Lib.hid hX
          have HTL := Lib.hid htl
          have HLX := Lib.hid hLx
          have HWR := Lib.hid hwr
          have HV2 := Lib.hid hV2
          have HF4 := Lib.hid f4
          have HN4 := Lib.hid n4
          have HJ := Lib.hid hj
          unfold Sv.stV at htb
          clear hres he hop hTwo3 hfr hX htl hLx hwr hV2 f4 t4 n4 w4 hts hj hV hM6 hjn hk4 hnm hax
          go_wp2_with fail
          refine hbd.mono ?_
          rintro e w4 ⟨rfl, rfl⟩
          clear hbd
          go_wp2_with fail
          refine htb.mono ?_
          rintro e w5 ⟨u5, rfl, _, b5⟩
          have hH5 := HH.out.later b5
          have hf := ld_fuse ((jn : Int) - (k4 : Int)) keep hH5.disk (by omega)
          rw [HJ.out] at hf
          have HH5 := Lib.hid hH5
          clear htb b5 k0 k1 k2 hH5
          go_wp2_with fail
          refine hf.mono ?_
          rintro e w6 ⟨rfl, hd6, hA6⟩
          have hd6 : Ldk w w6 p q ⟨10000000, M, false, j, keep⟩ := hd6
          have hlg := Vb.lt HH5.out.log
          have hgp : g ∉ [p, q] := log_out HH5.out.log HH5.out.disk.dk
          have hst6 : St w6 s g := Vb.apart HH5.out.st hA6 (by simpa using HH5.out.sp)
          have hl6 : Lg w6 g p _ := Vb.apart HH5.out.log hA6 (by simp at hgp ⊢; exact hgp.1)
          have hbx6 := Vb.apart HH5.out.box hA6 (by simpa using HH5.out.np)
          have he6 := ents_keep HH5.out.ents hA6 (by intro x hx; obtain rfl : x = p := (by simpa using hx); exact (noent_disk HH5.out.disk.dk).1)
          have hax := K3.out w6 hd6.bel
          have k0 := hax.k0
          have k1 := hax.k1
          have k2 := hax.k2
          simp only at k0 k1 k2
          have hsv := raft_save T V _ es hax.ents HV2.out.1 HV2.out.2 HWR.out hd6 hst6 hl6 HH5.out.gb (by have := HF4.out; omega) (by unfold RAFT; simp) HT.out
          rw [HRES.out] at hsv
          unfold Sv.stV at hsv
          have R6 := Lib.hid (And.intro hd6 (And.intro hbx6 (And.intro he6 hl6)))
          clear hf hax hd6 hA6 hst6 hl6 hbx6 he6
          go_wp2_with fail
          refine hsv.mono ?_
          rintro e w7 ⟨rfl, hd7, _, hA7⟩
          obtain ⟨hd6, hbx6, he6, hl6⟩ := R6.out
          have hn6 := noent_disk hd6.dk
          have hlbo : lb ∉ [p, q, g] := by
            have := HH5.out.np; have := HH5.out.nq; have := HH5.out.ng
            simp; omega
          have hbx7 := Vb.apart hbx6 hA7 hlbo
          have he7 := ents_keep he6 hA7 (by
            intro x hx
            rcases List.mem_cons.1 hx with rfl | hx
            · exact hn6.1
            rcases List.mem_cons.1 hx with rfl | hx
            · exact hn6.2
            obtain rfl : x = g := by simpa using hx
            exact noent_log hl6)
          have hon := ld_on hd7
          have R7 := Lib.hid (And.intro hd7 (And.intro hbx7 he7))
          clear hsv hd6 hbx6 he6 hl6 hn6 hA7 hbx7 he7 hd7 k0 k1 k2
          go_wp2_with fail
          refine hon.mono ?_
          rintro e w8 ⟨rfl, hd8, hA8⟩
          obtain ⟨hd7, hbx7, he7⟩ := R7.out
          have hbx8 := Vb.apart hbx7 hA8 (by simpa using HH5.out.np)
          have he8 := ents_keep he7 hA8 (by intro x hx; obtain rfl : x = p := (by simpa using hx); exact (noent_disk hd7.dk).1)
          have hO := raft_open hd8 HT.out HOP.out HFR.out (by have := HTL.out.1; omega) (fun t ht => by have := HTL.out.2.1 t ht; unfold maxLen; omega)
          have R8 := Lib.hid (And.intro hd8 (And.intro hbx8 he8))
          clear hon hd7 hbx7 he7 hbx8 he8 hd8 hA8
          go_wp2_with fail
          refine hO.mono ?_
          rintro e w9 ⟨s9, g9, u9, rfl, hd9, hA9, hg9, hs9, hst9, hl9, hE9⟩
          obtain ⟨hd8, hbx8, he8⟩ := R8.out
          have hn8 := noent_disk hd8.dk
          have hbx9 := Vb.apart hbx8 hA9 (by simp at hlbo ⊢; omega)
          have he9 := ents_keep he8 hA9 (by
            intro x hx
            rcases List.mem_cons.1 hx with rfl | hx
            · exact hn8.1
            obtain rfl : x = q := by simpa using hx
            exact hn8.2)
          have hlb8 := hbx8.lt
          have hp8 := hd8.dk.blk.lt
          have hsz := hd8.bel.size
          have hsp9 : s9 ≠ p := by omega
          have hgb9 : w.heap.size ≤ g9 := by omega
          have hng9 : lb ≠ g9 := by omega
          have hns9 : lb ≠ s9 := by omega
          have hlb9 := hbx9.lt
          have hx9l := hg9
          obtain ⟨A9, c9, rfl⟩ : ∃ A c, u9 = .slice A Lx.length c := hE9.form
          obtain ⟨W, hW⟩ : ∃ W, w9.alloc (.cells #[.int .u64 (Tx : Int), .int .i64 Vx, .slice A9 Lx.length c9] 61) = W := ⟨_, rfl⟩
          have bW : Below w9.heap.size w9 W := by rw [← hW]; exact (Below.refl _ w9).alloc (Nat.le_refl _) _
          have xW : Vb W w9.heap.size [.int .u64 (Tx : Int), .int .i64 Vx, .slice A9 Lx.length c9] 61 := by rw [← hW]; exact Vb.new w9 _ _
          have hdW := hd9.later bW
          have hlW : Lg W g9 p ⟨RAFT, ts.length, false⟩ := (bW.block _ (Vb.lt hl9)).trans hl9
          have hstW : St W s9 g9 := (bW.block _ (Vb.lt hst9)).trans hst9
          have hbxW : Vb W lb [.int .u64 (T0 : Int), .int .i64 V0, u0] 61 := (bW.block _ hlb9).trans hbx9
          have heW := he9.below bW
          have hEW := hE9.below bW
          have RW := Lib.hid (And.intro hdW (And.intro hlW (And.intro hstW (And.intro hbxW (And.intro heW (And.intro hEW (And.intro xW (And.intro hsp9 (And.intro hgb9 (And.intro hng9 hns9))))))))))
          have hlbx : lb ≠ w9.heap.size := by omega
          clear hO hd8 hbx8 he8 hn8 hbx9 he9 hlb8 hp8 hsz hsp9 hgb9 hng9 hns9 hlb9 hx9l hd9 hA9 hg9 hs9 hst9 hl9 hE9 bW hdW hlW hstW hbxW heW hEW xW
          unfold Sv.stV
          obtain ⟨GX, hGX⟩ : ∃ x, w9.heap.size = x := ⟨_, rfl⟩
          rw [hGX] at RW hlbx
          rcases HE.out with rfl | rfl
          all_goals
            go_wp2_with fail
            clear hGX hW
            obtain ⟨hdW, hlW, hstW, hbxW, heW, hEW, xW, hsp9, hgb9, hng9, hns9⟩ := RW.out
            have MK : Hid (∀ w', Below W.heap.size W w' → w'.cell? ⟨GX, 0, none⟩ = some (.int .u64 (Tx : Int)) ∧ w'.cell? ⟨GX, 1, none⟩ = some (.int .i64 Vx) ∧ w'.cell? ⟨GX, 2, none⟩ = some (.slice A9 Lx.length c9) ∧
              w'.cell? ⟨b, o + k * 3, none⟩ = some (.int .u64 (T : Int)) ∧ w'.cell? ⟨b, o + k * 3 + 1, none⟩ = some (.int .i64 V) ∧ w'.cell? ⟨b, o + k * 3 + 2, none⟩ = some (.slice A4 es.length c4) ∧
              w'.cell? ⟨lb, 0, none⟩ = some (.int .u64 (T0 : Int)) ∧ w'.cell? ⟨lb, 1, none⟩ = some (.int .i64 V0) ∧ w'.cell? ⟨lb, 2, none⟩ = some u0) := Lib.hid (fun w' h => by
                have hk := K3.out w' (hdW.bel.trans (h.mono hdW.bel.size))
                exact ⟨cell_later h (xW.cell 0 _ rfl), cell_later h (xW.cell 1 _ rfl), cell_later h (xW.cell 2 _ rfl), hk.k0, hk.k1, hk.k2, cell_later h (hbxW.cell 0 _ rfl), cell_later h (hbxW.cell 1 _ rfl), cell_later h (hbxW.cell 2 _ rfl)⟩)
            have EX : Hid (∀ w', Below W.heap.size W w' → Sv.Ents w' (.slice A9 Lx.length c9) Lx) := Lib.hid fun w' h => hEW.below h
            have EY : Hid (∀ w', Below W.heap.size W w' → Sv.Ents w' (.slice A4 es.length c4) es) := Lib.hid fun w' h => (K3.out w' (hdW.bel.trans (h.mono hdW.bel.size))).ents
            have EZ : Hid (∀ w', Below W.heap.size W w' → Sv.Ents w' u0 es0) := Lib.hid fun w' h => heW.below h
            have HLX2 : Hid (Lx.length ≤ 10000) := Lib.hid (by have := HLX.out; omega)
            have HN42 : Hid (es.length ≤ 10000) := Lib.hid (by have := HN4.out; omega)
            have HLX3 : Hid (Lx.length ≤ 100000) := Lib.hid (by have := HLX.out; omega)
            have HN43 : Hid (es.length ≤ 100000) := Lib.hid (by have := HN4.out; omega)
            have hW : Below W.heap.size W W.drew := below_drewN (Below.refl _ W) 1
            clear hn hni hm6 hm60 hjl hji hki hk4b hM6b hlg hgp hlbo hd6
            clear hdW hlW hstW hbxW heW hEW xW hsp9 hgb9 hng9 hns9
            go_cut [19] from 54 to 150 (fun s19 wx => s19 = .bool (decide (Tx = T ∧ Vx = V ∧ Lx = es)) ∧ Below W.heap.size W wx)
            case first =>
              obtain ⟨m0, m1, m2, m3, m4, m5, m6, m7, m8⟩ := MK.out W (Below.refl _ W)
              go_region_held3 (fun w' => w'.cell? ⟨GX, 0, none⟩ = some (.int .u64 (Tx : Int)) ∧ w'.cell? ⟨GX, 1, none⟩ = some (.int .i64 Vx) ∧ w'.cell? ⟨GX, 2, none⟩ = some (.slice A9 Lx.length c9) ∧
                w'.cell? ⟨b, o + k * 3, none⟩ = some (.int .u64 (T : Int)) ∧ w'.cell? ⟨b, o + k * 3 + 1, none⟩ = some (.int .i64 V) ∧ w'.cell? ⟨b, o + k * 3 + 2, none⟩ = some (.slice A4 es.length c4) ∧
                w'.cell? ⟨lb, 0, none⟩ = some (.int .u64 (T0 : Int)) ∧ w'.cell? ⟨lb, 1, none⟩ = some (.int .i64 V0) ∧ w'.cell? ⟨lb, 2, none⟩ = some u0)
                (exact MK.out _ hW)
                (first | (go_at_call 34; refine (Sv.its_any _ _ _ ?_ _ ?_ ?_).mono ?_; rotate_left; (first | exact EX.out _ hW | exact EY.out _ hW); (first | exact HLX2.out | exact HN42.out); rintro e w10 ⟨ux, rfl, hE, hb⟩; (try have hE0' := Sv.Ents.below hE0 hb); have hE0 := hE; have hW := hW.trans (hb.mono hW.size); obtain ⟨Ax, kx, hux⟩ := hE.form; subst hux; unfold Sv.stV) | (go_at_call 33; refine (Sv.same_any _ _ _ _ _ _ ?_ ?_ _ ?_ ?_ ?_ ?_).mono ?_; rotate_left 2; (first | exact hE0 | exact hE0'); (first | exact hE0 | exact hE0'); (first | exact HLX3.out | exact HN43.out); (first | exact HLX3.out | exact HN43.out); rintro e w10 ⟨rfl, hb⟩; have hW := hW.trans (hb.mono hW.size)))
              all_goals
                go_wp2_with fail
                go_meet
                exact ⟨by simp, hW⟩
            case rest =>
              obtain ⟨rfl, hWc⟩ := hcut
              obtain ⟨nb, hnb⟩ : ∃ x, decide (Tx = T ∧ Vx = V ∧ Lx = es) = x := ⟨_, rfl⟩
              rw [hnb]
              have HNB := Lib.hid hnb
              clear hW hnb
              have hW : Below W.heap.size W wc.drew := hWc.trans ((below_drewN (Below.refl _ wc) 1).mono hWc.size)
              have HZ3 : Hid (es0.length ≤ 10000) := Lib.hid (by have := HH.out.ne; omega)
              have HZ4 : Hid (es0.length ≤ 100000) := Lib.hid (by have := HH.out.ne; omega)
              have HWC := Lib.hid hWc
              obtain ⟨A0, c0, rfl⟩ : ∃ A c, u0 = .slice A es0.length c := (EZ.out _ hWc).form
              clear hWc
              go_wp2_with fail
              go_cut [20] from 54 to 150 (fun s20 wx => s20 = .bool (decide (Tx = T0 ∧ Vx = V0 ∧ Lx = es0)) ∧ Below W.heap.size W wx)
              case first =>
                obtain ⟨m0, m1, m2, m3, m4, m5, m6, m7, m8⟩ := MK.out wc HWC.out
                go_region_held3 (fun w' => w'.cell? ⟨GX, 0, none⟩ = some (.int .u64 (Tx : Int)) ∧ w'.cell? ⟨GX, 1, none⟩ = some (.int .i64 Vx) ∧ w'.cell? ⟨GX, 2, none⟩ = some (.slice A9 Lx.length c9) ∧
                  w'.cell? ⟨b, o + k * 3, none⟩ = some (.int .u64 (T : Int)) ∧ w'.cell? ⟨b, o + k * 3 + 1, none⟩ = some (.int .i64 V) ∧ w'.cell? ⟨b, o + k * 3 + 2, none⟩ = some (.slice A4 es.length c4) ∧
                  w'.cell? ⟨lb, 0, none⟩ = some (.int .u64 (T0 : Int)) ∧ w'.cell? ⟨lb, 1, none⟩ = some (.int .i64 V0) ∧ w'.cell? ⟨lb, 2, none⟩ = some (.slice A0 es0.length c0))
                  (exact MK.out _ hW)
                  (first | (go_at_call 34; refine (Sv.its_any _ _ _ ?_ _ ?_ ?_).mono ?_; rotate_left; (first | exact EX.out _ hW | exact EZ.out _ hW); (first | exact HLX2.out | exact HZ3.out); rintro e w10 ⟨ux, rfl, hE, hb⟩; (try have hE0' := Sv.Ents.below hE0 hb); have hE0 := hE; have hW := hW.trans (hb.mono hW.size); obtain ⟨Ax, kx, hux⟩ := hE.form; subst hux; unfold Sv.stV) | (go_at_call 33; refine (Sv.same_any _ _ _ _ _ _ ?_ ?_ _ ?_ ?_ ?_ ?_).mono ?_; rotate_left 2; (first | exact hE0 | exact hE0'); (first | exact hE0 | exact hE0'); (first | exact HLX3.out | exact HZ4.out); (first | exact HLX3.out | exact HZ4.out); rintro e w10 ⟨rfl, hb⟩; have hW := hW.trans (hb.mono hW.size)))
                all_goals
                  go_wp2_with fail
                  go_meet
                  exact ⟨by simp, hW⟩
              case rest =>
                obtain ⟨rfl, hWc⟩ := hcut
                obtain ⟨wb, hwb⟩ : ∃ x, decide (Tx = T0 ∧ Vx = V0 ∧ Lx = es0) = x := ⟨_, rfl⟩
                rw [hwb]
                have HWB := Lib.hid hwb
                have HWC := Lib.hid hWc
                clear hW hwb hWc
                obtain ⟨hdW, hlW, hstW, hbxW, heW, hEW, xW, hsp9, hgb9, hng9, hns9⟩ := RW.out
                have hdC := hdW.later HWC.out
                have hlC : Lg wc g9 p ⟨RAFT, ts.length, false⟩ := (HWC.out.block _ (Vb.lt hlW)).trans hlW
                have hstC : St wc s9 g9 := (HWC.out.block _ (Vb.lt hstW)).trans hstW
                have hbxC : Vb wc lb [.int .u64 (T0 : Int), .int .i64 V0, .slice A0 es0.length c0] 61 := (HWC.out.block _ hbxW.lt).trans hbxW
                have hEC := hEW.below HWC.out
                have hA9 : Apart [lb] wc (((wc.setCell ⟨lb, 0, none⟩ (.int .u64 (Tx : Int))).setCell ⟨lb, 1, none⟩ (.int .i64 Vx)).setCell ⟨lb, 2, none⟩ (.slice A9 Lx.length c9)) :=
                  ((Apart.setCell wc lb 0 _).trans (Apart.setCell _ lb 1 _)).trans (Apart.setCell _ lb 2 _)
                have hb9 : Vb (((wc.setCell ⟨lb, 0, none⟩ (.int .u64 (Tx : Int))).setCell ⟨lb, 1, none⟩ (.int .i64 Vx)).setCell ⟨lb, 2, none⟩ (.slice A9 Lx.length c9)) lb [.int .u64 (Tx : Int), .int .i64 Vx, .slice A9 Lx.length c9] 61 := ((hbxC.set 0 _).set 1 _).set 2 _
                have hno : ∀ x ∈ [lb], NoEnt wc x := by
                  intro x hx
                  obtain rfl : x = lb := by simpa using hx
                  refine noent_of hbxC ?_
                  rintro j n s ⟨h1, h2⟩
                  match j, h1, h2 with
                  | 0, _, h2 => simp at h2
                  | 1, h1, _ => simp at h1
                  | 2, h1, _ => simp at h1
                  | k + 3, h1, _ => simp at h1
                have HELD : Hid (Held w (((wc.setCell ⟨lb, 0, none⟩ (.int .u64 (Tx : Int))).setCell ⟨lb, 1, none⟩ (.int .i64 Vx)).setCell ⟨lb, 2, none⟩ (.slice A9 Lx.length c9)) p q g9 s9 lb ts Tx Vx (.slice A9 Lx.length c9) Lx M3 keep) :=
                  Lib.hid ⟨hdC.next hA9 (by simpa using HH.out.lbb) (hdC.dk.apart hA9 (by simpa using fun h => HH.out.np h.symm) (by simpa using fun h => HH.out.nq h.symm)) hdC.ok rfl,
                    hlC.apart hA9 (by simpa using fun h => hng9 h.symm), hstC.apart hA9 (by simpa using fun h => hns9 h.symm), hb9, ents_keep hEC hA9 hno, hgb9, HH.out.lbb, HTWO.out, HTL.out.2.2, HTL.out.2.1, HFR.out, HTL.out.1, HLX.out, HH.out.np, HH.out.nq, hng9, hsp9⟩
                obtain ⟨m0, m1, m2, _⟩ := MK.out wc HWC.out
                have f0 := hbxC.free 0
                have f1 := hbxC.free 1
                have f2 := hbxC.free 2
                clear hdW hlW hstW hbxW heW hEW xW hsp9 hgb9 hng9 hns9 hdC hlC hstC hbxC hEC hA9 hb9 hno
                cases nb with
                | true =>
                  go_wp2_with fail
                  go_roundw
                  case rel => exact ⟨k + 1, s9, g9, ts, Tx, Vx, _, Lx, M3, keep, by omega, by go_num, rfl, HELD.out⟩
                  case measure => simp [intOf]; omega
                | false =>
                  rcases HX.out with hx | ⟨h6, hx⟩
                  · have := HNB.out
                    rw [decide_eq_true hx] at this
                    cases this
                  obtain rfl : wb = true := by rw [← HWB.out]; exact decide_eq_true hx
                  first
                  | (exfalso; revert h6; decide)
                  | skip
                  all_goals
                    clear h6 hx
                    go_wp2_with fail
                    go_roundw
                    case rel => exact ⟨k + 1, s9, g9, ts, Tx, Vx, _, Lx, M3, keep, by omega, by go_num, rfl, HELD.out⟩
                    case measure => simp [intOf]; omega
    · go_wp2_with fail
      go_ret
      exact ⟨rfl, hbel⟩
theorem saves_law (v : Value) (l : List LSt) (n : Nat) (keep : Int) (w : World) (hn : n < 256) (hv : Sts w v l) (ht : TabAt w) :
    Calls Tryd.prog 8 #[v, .int .u8 (n : Int), .int .i64 keep] w fun e w' => e = .returned (.bool true) ∧ Below w.heap.size w w' := by
  by_cases h : l.length ≤ 8
  · exact saves_few v l n keep w hn hv h ht
  · exact saves_long v l n keep w hv (by omega)
end Go.Proofs.YtdnoeahhidmkbaaDoor
