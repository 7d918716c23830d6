/- The disk's call Create. -/
import Derived.Test.YtdnoeahhidmkbaaDoorVdOps
namespace Go.Proofs.YtdnoeahhidmkbaaDoor
open Go Go.RowKit Go.Lib
set_option maxRecDepth 100000

section
variable {w : World} {p b : Nat} {d : vd.Disk}
theorem FMap.len {M : vd.Files} {P : Program} {t k e : TypeId} (h : FMap w b M) (ht : P.underlying t = some (.map k e)) (ty : TypeId) : (Builtin.len_ #[t] ty #[.map (some b)]).run P w = .ok (.int .i64 (M.length : Int)) w := by
  obtain ⟨es, clock, hb, hkv, hs, hl⟩ := h
  have hlen : es.size = M.length := by
    have := congrArg List.length hkv
    simpa using this
  simp [Builtin.len_, run_underlying ht, MapKept.run_getObj_map hb, goInt, Result.andThen, hlen]
set_option maxHeartbeats 4000000 in
theorem vd_create (n : vd.Name) (hd : Dk w p b d) (ho : vd.Ok d) (hn : n.length ≤ maxLen) :
    Calls Tryd.prog 64 #[dptr p, keyV n] w (fun e w' => e = .returned (.int .i64 ((vd.create d n).2 : Nat)) ∧ Dk w' p b (vd.create d n).1 ∧ Apart [p, b] w w') := by
  have hx := Bx.new n hd
  obtain ⟨W, hW⟩ : ∃ W, (w.alloc (.cells #[dptr p] 23)).alloc (.cells #[keyV n] 9) = W := ⟨_, rfl⟩
  rw [hW] at hx
  have hA := Apart.of_below hx.below [p, b]
  have q0 := hx.one.cell 0 _ rfl
  have q1 := hx.two.cell 0 _ rfl
  obtain ⟨V, hV⟩ : ∃ V, W.alloc (.cells #[.string (crcm.mk n)] 9) = V := ⟨_, rfl⟩
  have hVb : Below W.heap.size W V := by rw [← hV]; exact (Below.refl _ W).alloc (Nat.le_refl _) _
  have hvV : Vb V W.heap.size [.string (crcm.mk n)] 9 := by rw [← hV]; exact Vb.new W _ _
  have hdV : Dk V p b d := ⟨(hVb.block p hx.disk.blk.lt).trans hx.disk.blk, hx.disk.map.below hVb⟩
  have hAV := hA.trans (Apart.of_below hVb [p, b])
  have v0 := cell_later hVb q0
  have v1 := cell_later hVb q1
  have v2 := hdV.blk.cell 2 _ rfl
  have hst : Strs V (.slice (some ⟨W.heap.size, 0, none⟩) 1 1) [n] := ⟨some ⟨W.heap.size, 0, none⟩, 1, rfl, fun k hk => by
    obtain rfl : k = 0 := by simp at hk; omega
    exact ⟨_, rfl, hvV.cell 0 _ rfl⟩⟩
  have hcn := vd_named hdV _ [n] hst (by simp) (by simp; exact hn)
  obtain ⟨g, hg⟩ : ∃ g, vd.at_ d.files n = g := ⟨_, rfl⟩
  obtain ⟨er, her⟩ : ∃ er, vd.nameErr d.off [n] = er := ⟨_, rfl⟩
  obtain ⟨hs, hh⟩ : ∃ x, vd.has d.files n = x := ⟨_, rfl⟩
  obtain ⟨N, hN⟩ : ∃ x, d.files.length = x := ⟨_, rfl⟩
  rw [her] at hcn
  -- the look: whatever order
  have hZ : Below V.heap.size V (V.alloc (.cells #[.string ⟨#[]⟩, .int .i64 0] 96)) := (Below.refl _ _).alloc (Nat.le_refl _) _
  have hl := (hdV.map.below ((Below.refl _ V).drew)).look_ok Tryd.underlying74 Tryd.underlying9 (zero_file _) n hn
  have hl2 := (hdV.map.below hZ.drew).look_ok Tryd.underlying74 Tryd.underlying9 (zero_file _) n hn
  have z0 := cell_later hZ v0
  have z1 := cell_later hZ v1
  have z2 := cell_later hZ v2
  rw [hg, hh, show fileV g = .agg #[.string (crcm.mk g.1), .int .i64 (g.2 : Int)] from rfl, keyV] at hl hl2
  obtain ⟨U, hU⟩ : ∃ U, (V.alloc (.cells #[.string (crcm.mk g.1), .int .i64 (g.2 : Int)] 96)).drew = U := ⟨_, rfl⟩
  have hUb : Below V.heap.size V U := by rw [← hU]; exact ((Below.refl _ _).alloc (Nat.le_refl _) _).drew
  have hdU : Dk U p b d := ⟨(hUb.block p hdV.blk.lt).trans hdV.blk, hdV.map.below hUb⟩
  have hAU := hAV.trans (Apart.of_below hUb [p, b])
  have u0 := cell_later hUb v0
  have u1 := cell_later hUb v1
  have u2 := cell_later hUb v2
  have hlen := hdU.map.len Tryd.underlying74 3
  rw [hN] at hlen
  have hres : vd.create d n = if er ≠ 0 then (d, er) else if hs then (d, 4) else if 200 ≤ N then (d, 2) else (vd.done d (vd.put d.files n ([], 0)) false, vd.doneE d) := by rw [← her, ← hh, ← hN]; rfl
  have hcall : er = 0 → hs = false → Calls Tryd.prog 88 #[dptr p, .bool false, .func (.func 89) #[] #[.pointer (some ⟨w.heap.size, 0, none⟩), .pointer (some ⟨w.heap.size + 1, 0, none⟩)]] U (fun e w' => e = .returned (.int .i64 (vd.doneE d : Nat)) ∧ Dk w' p b (vd.done d (vd.put d.files n ([], 0)) false) ∧ Apart [p, b] U w') := by
    intro h0 hf
    have htot := ho.tot
    refine vd_act _ false _ _ hdU ho (vd.ok_put ho n _ (vd.good_len (vd.err_zero (her.trans h0)).2) (Nat.le_refl _) (by show _ + 0 ≤ _; omega)) (enters_any Tryd.func89 (by kernel_rfl) rfl) ?_
    intro w1 h1 hA1
    have hpl := hd.blk.lt
    have k : ∀ {g : Nat} {x : Value} {t : TypeId}, Vb W g [x] t → w.heap.size ≤ g → Vb w1 g [x] t := fun h hg => (show Vb U _ _ _ from (hUb.block _ (Nat.lt_of_lt_of_le h.lt hVb.size)).trans ((hVb.block _ h.lt).trans h)).apart hA1 (by simp; omega)
    exact vd_create1 h1 (k hx.one (by omega)) (k hx.two (by omega)) hn ho.cap ho.tot
  have HC := Lib.hid hcall
  have HD := Lib.hid hdV
  have HDU := Lib.hid hdU
  have HR := Lib.hid hres
  clear hcall hdV hdU ho hx hres her hst hvV hVb hd hA hg hh hN hUb
  unfold dptr keyV at *
  go_enter Tryd.func64, Tryd.ntmps64
  go_wp2_with fail
  refine hcn.mono ?_
  rintro e w2 ⟨rfl, rfl⟩
  go_wp2_with fail
  go_region
  all_goals go_step
  by_cases he : er = 0
  · have hei : (er : Int) = 0 := by omega
    subst he
    cases hs with
    | true =>
      clear hlen
      all_goals (go_wp2_with fail; go_ret; rw [HR.out]; exact ⟨rfl, HDU.out, hAU⟩)
    | false =>
      by_cases h200 : 200 ≤ N
      · have hni : (200 : Int) ≤ (N : Int) := by omega
        go_wp2_with fail
        go_ret
        rw [HR.out, if_neg (by simp), if_neg (by simp), if_pos h200]
        exact ⟨rfl, HDU.out, hAU⟩
      · have hni : ¬ (200 : Int) ≤ (N : Int) := by omega
        have hcl := HC.out rfl rfl
        go_wp2_with fail
        refine hcl.mono ?_
        rintro e w3 ⟨rfl, h1, h2⟩
        go_wp2_with fail
        go_ret
        rw [HR.out, if_neg (by simp), if_neg (by simp), if_neg h200]
        exact ⟨rfl, h1, hAU.trans h2⟩
  · have hei : ¬ (er : Int) = 0 := by omega
    clear hlen
    go_wp2_with fail
    go_ret
    rw [HR.out, if_pos he]
    exact ⟨rfl, HDU.out, hAU⟩
end
end Go.Proofs.YtdnoeahhidmkbaaDoor
