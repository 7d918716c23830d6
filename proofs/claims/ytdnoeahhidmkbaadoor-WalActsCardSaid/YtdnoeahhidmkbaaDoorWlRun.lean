/- steps, up to the first error; write. -/
import Derived.Test.YtdnoeahhidmkbaaDoorWlSteps
namespace Go.Proofs.YtdnoeahhidmkbaaDoor
open Go Go.RowKit
set_option maxRecDepth 100000

namespace wl
abbrev Op1 := vd.Disk → vd.Disk × Nat
def run : List Op1 → Op1
  | [], d => (d, 0)
  | f :: r, d => if (f d).2 ≠ 0 then f d else run r (f d).1
end wl
/-- what a step's function does, wherever it is called behind w0 -/
def Step (w0 : World) (p b : Nat) (x : Nat × Array Value × wl.Op1) : Prop :=
  (∀ args w, (callFunc x.1 args).run Tryd.prog w = .ok (.enter x.1 args) w) ∧
  ∀ d w, vd.Ok d → Dk w p b d → Apart [p, b] w0 w → vd.Ok (x.2.2 d).1 ∧
    Calls Tryd.prog x.1 x.2.1 w (fun e w' => e = .returned (.int .i64 ((x.2.2 d).2 : Nat)) ∧ Dk w' p b (x.2.2 d).1 ∧ Apart [p, b] w w')
def stepV (x : Nat × Array Value × wl.Op1) : Value := .func (.func x.1) #[] x.2.1
set_option maxHeartbeats 4000000 in
theorem wal_steps {w : World} {p b G : Nat} {d : vd.Disk} (xs : List (Nat × Array Value × wl.Op1)) (hG : Vb w G (xs.map stepV) 87) (hGo : G ∉ [p, b]) (hx : ∀ x ∈ xs, Step w p b x) (hd : Dk w p b d) (hok : vd.Ok d) (hl : xs.length ≤ 1000) :
    Calls Tryd.prog 41 #[.slice (some ⟨G, 0, none⟩) xs.length xs.length] w (fun e w' => e = .returned (.int .i64 ((wl.run (xs.map (·.2.2)) d).2 : Nat)) ∧ Dk w' p b (wl.run (xs.map (·.2.2)) d).1 ∧ Apart [p, b] w w' ∧ vd.Ok (wl.run (xs.map (·.2.2)) d).1) := by
  obtain ⟨R, hR⟩ : ∃ R, wl.run (xs.map (·.2.2)) d = R := ⟨_, rfl⟩
  rw [hR]
  obtain ⟨n, hn⟩ : ∃ n, xs.length = n := ⟨_, rfl⟩
  rw [hn] at hl ⊢
  have hcell : ∀ k (x : Nat × Array Value × wl.Op1), xs[k]? = some x → ∀ wr, Apart [p, b] w wr → wr.cell? ⟨G, k, none⟩ = some (.func (.func x.1) #[] x.2.1) := fun k x hk wr hA => (hG.apart hA hGo).cell k _ (by rw [List.getElem?_map, hk]; rfl)
  have HC := Lib.hid hcell
  have HN := Lib.hid hn
  have HX := Lib.hid hx
  have HRR := Lib.hid hR
  have hd0 := Lib.hid hd
  have hok0 := Lib.hid hok
  clear hcell hn hx hR hG hGo hd hok
  go_enter Tryd.func41, Tryd.ntmps41
  go_wp2_with fail
  go_loopw [8] (fun i wr => ∃ (k : Nat) (d' : vd.Disk), k ≤ n ∧ i = .int .i64 k ∧ wl.run ((xs.drop k).map (·.2.2)) d' = R ∧ vd.Ok d' ∧ Dk wr p b d' ∧ Apart [p, b] w wr) (fun i _ => n - (intOf i).toNat)
  case atStart => exact ⟨0, d, Nat.zero_le _, rfl, HRR.out, hok0.out, hd0.out, .refl _ _⟩
  case round =>
    obtain ⟨k, d', hk, rfl, hrun, hok, hd, hA⟩ := hrel
    by_cases hlt : k < n
    · obtain ⟨x, hx⟩ : ∃ x, xs[k]? = some x := ⟨xs[k]'(by rw [HN.out]; exact hlt), List.getElem?_eq_getElem (by rw [HN.out]; exact hlt)⟩
      have c0 := HC.out k x hx wr hA
      obtain ⟨e1, e2⟩ := HX.out x (List.mem_of_getElem? hx)
      obtain ⟨hok2, hcall⟩ := e2 d' wr hok hd hA
      have hdr : xs.drop k = x :: xs.drop (k + 1) := by
        obtain ⟨h1, h2⟩ := List.getElem?_eq_some_iff.1 hx
        rw [← h2]; exact List.drop_eq_getElem_cons h1
      rw [hdr] at hrun
      obtain ⟨F, caps, op⟩ := x
      obtain ⟨er, her⟩ : ∃ er, (op d').2 = er := ⟨_, rfl⟩
      have hstep : R = if er ≠ 0 then op d' else wl.run ((xs.drop (k + 1)).map (·.2.2)) (op d').1 := by rw [← her, ← hrun]; rfl
      simp only [her] at hcall
      simp only at c0 e1 hok2
      have HS := Lib.hid hstep
      have HE := Lib.hid her
      have HO := Lib.hid hok2
      have HXX := Lib.hid hx
      clear hstep her hrun hdr hx hok2 hok hd e2
      by_cases h0 : er = 0
      · have hei : (er : Int) = 0 := by omega
        go_wp2_with fail
        refine hcall.mono ?_
        rintro e w2 ⟨rfl, h1, h2⟩
        go_wp2_with fail
        go_roundw
        case rel => exact ⟨k + 1, (op d').1, by omega, by go_num, by rw [HS.out, if_neg (by rw [h0]; simp)], HO.out, h1, hA.trans h2⟩
        case measure => simp [intOf]; omega
      · have hei : ¬ (er : Int) = 0 := by omega
        go_wp2_with fail
        refine hcall.mono ?_
        rintro e w2 ⟨rfl, h1, h2⟩
        go_wp2_with fail
        go_ret
        rw [HS.out, if_pos h0, HE.out]
        exact ⟨rfl, h1, hA.trans h2, HO.out⟩
    · obtain rfl : k = n := by omega
      have hdn : xs.drop k = [] := List.drop_eq_nil_of_le (by rw [HN.out]; exact Nat.le_refl _)
      rw [hdn] at hrun
      have hRd : R = (d', 0) := hrun.symm
      have HRd := Lib.hid hRd
      have HO := Lib.hid hok
      have HDD := Lib.hid hd
      clear hrun hdn hRd hok hd
      go_wp2_with fail
      go_ret
      rw [HRd.out]
      exact ⟨rfl, HDD.out, hA, HO.out⟩
end Go.Proofs.YtdnoeahhidmkbaaDoor
