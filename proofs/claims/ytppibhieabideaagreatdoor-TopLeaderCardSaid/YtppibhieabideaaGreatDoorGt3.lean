/- A part of the walk of the program, and of its plain law. -/
import Derived.Test.YtppibhieabideaaGreatDoorGt2
import Derived.Deep.LoopGhost
import Derived.Lib.Strings
import Derived.Shelf.Abstract
namespace Go.Proofs.YtppibhieabideaaGreatDoor
set_option maxHeartbeats 4000000
open Go Go.RowKit Go.Lib
set_option maxRecDepth 100000
namespace vd
def stay (keep:Int) (f:File):Nat:=if 0≤keep then (keep % ((f.1.length - f.2 + 1:Nat):Int)).toNat else 0
def trim (keep:Int) (f:File):File:=(f.1.take (f.2 + stay keep f),f.2 + stay keep f)
theorem stay_le (keep:Int) (f:File):stay keep f≤f.1.length - f.2:=by
 unfold stay
 split
 ·have h1:=Int.emod_lt_of_pos keep (b:=((f.1.length - f.2 + 1:Nat):Int)) (by omega)
  have h2:=Int.emod_nonneg keep (b:=((f.1.length - f.2 + 1:Nat):Int)) (by omega)
  omega
 ·omega
def mapF (φ:Name→File→File) (M:Files):Files:=M.map λx=>(x.1,φ x.1 x.2)
def crash (d:Disk) (keep:Int):Disk:={ d with files:=mapF (λ_ f=>trim keep f) d.files,off:=true }
structure Ok (d:Disk):Prop where
 cap:d.cap≤1000000000
 tot:total d.files≤d.cap
 nod:(d.files.map (·.1)).Nodup
 syn:∀ x ∈ d.files,x.2.2≤x.2.1.length
 nam:∀ x ∈ d.files,x.1.length≤60
 lef:d.left≤9223372036854775807
theorem mapF_names (φ:Name→File→File) (M:Files):(mapF φ M).map (·.1)=M.map (·.1):=by unfold mapF;rw [List.map_map];rfl
theorem mapF_id (M:Files):mapF (λ_ f=>f) M=M:=by unfold mapF;simp
theorem mapF_put (φ ψ:Name→File→File) (M:Files) (hd:(M.map (·.1)).Nodup) {n:Name} {g:File} (hm:(n,g) ∈ M) (h:∀ m f,m ≠ n→ψ m f=φ m f):put (mapF φ M) n (ψ n g)=mapF ψ M:=by
 induction M with
 | nil=>cases hm
 | cons x r ih=>
  obtain ⟨m,f⟩:=x;rw [List.map_cons,List.nodup_cons] at hd;unfold mapF;rw [List.map_cons,List.map_cons];unfold put
  by_cases hmn:m=n
  ·subst hmn;rw [if_pos rfl]
   have:g=f:=by
    rcases List.mem_cons.1 hm with e | hx
    ·exact (Prod.mk.inj e).2
    ·exact absurd (List.mem_map.2 ⟨_,hx,rfl⟩) hd.1
   subst this
   congr 1
   apply List.map_congr_left
   rintro ⟨k,f⟩ hk
   have hne:k ≠ m:=λe=>hd.1 (List.mem_map.2 ⟨_,hk,e⟩)
   show (k,φ k f)=(k,ψ k f)
   rw [h k f hne]
  ·rw [if_neg hmn]
   have hr:(n,g) ∈ r:=by
    rcases List.mem_cons.1 hm with e | hx
    ·exact absurd (Prod.mk.inj e).1.symm hmn
    ·exact hx
   show (m,φ m f) :: put (mapF φ r) n (ψ n g)=(m,ψ m f) :: mapF ψ r
   rw [ih hd.2 hr,h m f hmn]
theorem mapF_mem (φ:Name→File→File) (M:Files) {n:Name} {g:File} (h:(n,g) ∈ mapF φ M):∃ f,(n,f) ∈ M∧g=φ n f:=by
 unfold mapF at h;obtain ⟨⟨m,f⟩,hx,e⟩:=List.mem_map.1 h
 cases e
 exact ⟨f,hx,rfl⟩
theorem has_mem {M:Files} {n:Name} {g:File} (h:(n,g) ∈ M):has M n=true:=by
 induction M with
 | nil=>cases h
 | cons x r ih=>
  obtain ⟨m,f⟩:=x;unfold has
  by_cases hmn:m=n
  ·rw [if_pos hmn]
  ·rw [if_neg hmn]
   rcases List.mem_cons.1 h with e | hx
   ·exact absurd (Prod.mk.inj e).1.symm hmn
   ·exact ih hx
theorem at_mem {M:Files} (hd:(M.map (·.1)).Nodup) {n:Name} {g:File} (h:(n,g) ∈ M):at_ M n=g:=by
 obtain ⟨j,hj⟩:=List.getElem?_of_mem h;exact (one_here hd hj g).2.1
theorem total_mapF (φ:Name→File→File) (M:Files) (h:∀ x ∈ M,(φ x.1 x.2).1.length≤x.2.1.length):total (mapF φ M)≤total M:=by
 induction M with
 | nil=>exact Nat.le_refl _
 | cons x r ih=>
  have h1:=h x (by simp)
  have h2:=ih (λy hy=>h y (by simp [hy]))
  unfold total mapF at *;simp only [List.map_cons,List.sum_cons] at *;omega
theorem trim_len (keep:Int) (f:File):(trim keep f).1.length≤f.1.length:=by unfold trim;rw [List.length_take];omega
theorem Vn (keep:Int) (f:File) (h:f.2≤f.1.length):(trim keep f).1.length=(trim keep f).2:=by
 have:=stay_le keep f;unfold trim;rw [List.length_take]
 show min (f.2 + stay keep f) f.1.length=f.2 + stay keep f
 omega
theorem ok_crash {d:Disk} (h:Ok d) (keep:Int):Ok (crash d keep):=by
 have hf:(crash d keep).files=mapF (λ_ f=>trim keep f) d.files:=rfl
 refine ⟨h.cap,?_,?_,?_,?_,h.lef⟩
 ·rw [hf]
  exact Nat.le_trans (total_mapF _ _ (λx _=>trim_len keep x.2)) h.tot
 ·rw [hf,mapF_names];exact h.nod
 ·rintro ⟨n,g⟩ hx;rw [hf] at hx;obtain ⟨f,hm,rfl⟩:=mapF_mem _ _ hx;exact Nat.le_of_eq (Vn keep f (h.syn _ hm)).symm
 ·rintro ⟨n,g⟩ hx;rw [hf] at hx;obtain ⟨f,hm,rfl⟩:=mapF_mem _ _ hx;exact h.nam (n,f) hm
def rest (done:Name→Bool):Files→Nat
 | []=>0
 | x :: r=>(done x.1).toNat.ble 0 |>.toNat.add (rest done r)
theorem zX (done:Name→Bool) (x:Name × File) (r:Files):rest done (x :: r)=((done x.1).toNat.ble 0).toNat + rest done r:=rfl
theorem rest_le (M:Files) (n:Name) (done:Name→Bool):rest (λm=>decide (m=n) || done m) M≤rest done M:=by
 induction M with
 | nil=>exact Nat.le_refl _
 | cons x r ih=>
  rw [zX,zX]
  have:((decide (x.1=n) || done x.1).toNat.ble 0).toNat≤((done x.1).toNat.ble 0).toNat:=by
   cases done x.1 <;> cases decide (x.1=n) <;> decide
  omega
theorem rest_less {M:Files} {done:Name→Bool} {n:Name} {g:File} (h:(n,g) ∈ M) (hn:done n=false):rest (λm=>decide (m=n) || done m) M < rest done M:=by
 induction M with
 | nil=>cases h
 | cons x r ih=>
  have hle:=rest_le r n done;rw [zX,zX];obtain ⟨m,f⟩:=x
  rcases List.mem_cons.1 h with e | hx
  ·obtain rfl:=(Prod.mk.inj e).1
   have h1:((decide (n=n) || done n).toNat.ble 0).toNat=0:=by rw [decide_eq_true rfl];rfl
   have h2:((done n).toNat.ble 0).toNat=1:=by rw [hn];rfl
   show ((decide (n=n) || done n).toNat.ble 0).toNat + _ < ((done n).toNat.ble 0).toNat + _
   omega
  ·have:=ih hx
   have:((decide (m=n) || done m).toNat.ble 0).toNat≤((done m).toNat.ble 0).toNat:=by
    cases done m <;> cases decide (m=n) <;> decide
   show ((decide (m=n) || done m).toNat.ble 0).toNat + _ < ((done m).toNat.ble 0).toNat + _
   omega
end vd
theorem ZA {w:World} {p b:Nat} {d:vd.Disk} (keep:Int) (hd:Dk w p b d) (ho:vd.Ok d) :
  Calls Tryz.prog 157 #[dptr p,.int .i64 keep] w (λe w'=>e=.returned (.tuple #[])∧Dk w' p b (vd.crash d keep)∧Apart [p,b] w w'):=by
 have hpb:=hd.ne;have hpl:=hd.blk.lt;have hbl:=hd.map.lt;have z3:=hd.blk.free 3;have hA1:Apart [p] w (w.setCell ⟨p,3,none⟩ (.bool true)):=Apart.setCell w p 3 _;have hv1:Vb (w.setCell ⟨p,3,none⟩ (.bool true)) p (zO b { d with off:=true }) 177:=hd.blk.set 3 (.bool true)
 have hm1:FMap (w.setCell ⟨p,3,none⟩ (.bool true)) b d.files:=hd.map.apart hA1 (by simp;exact λe=>hpb e.symm)
 have q3:=hd.blk.cell 3 _ rfl;have q2:=hv1.cell 2 _ rfl;obtain ⟨W1,hr,hit,hbl1,hsz⟩:=It.begin hm1 (P:=Tryz.prog) Tryz.underlying175 rfl;unfold dptr
 go_enter Tryz.func157,Tryz.ntmps157
 go_wp2;have hm2:=hm1.below hbl1
 have hA2:Apart [p,b] w W1:=(hA1.mono (by simp)).trans (.of_below hbl1 _)
 rw [show (w.setCell ⟨p,3,none⟩ (.bool true)).heap.size=w.heap.size from by simp [World.setCell]] at hit hbl1 hsz
 have hd1:Dk W1 p b { d with off:=true }:=⟨(hbl1.block p hpl).trans hv1,hm2⟩
 have hsh:Hid (vd.mapF (λn f=>bif (λ_=>false) n then vd.trim keep f else f) d.files=d.files):=Uq (vd.mapF_id _)
 clear hr hbl1 z3 q3 q2 hm1 hv1 hA1 hsz hm2;have hlt:w.heap.size < W1.heap.size:=hit.lt.1
 go_loopg [4] (vd.rest (λ_=>false) d.files) (λk _ wr=>∃ done,k=vd.rest done d.files∧It wr w.heap.size b (vd.mapF (λn f=>bif done n then vd.trim keep f else f) d.files) done∧Dk wr p b { d with files:=vd.mapF (λn f=>bif done n then vd.trim keep f else f) d.files,off:=true }∧Apart [p,b] w wr)
 case atStart=>exact ⟨λ_=>false,rfl,by rw [hsh.out];exact hit,by rw [hsh.out];exact hd1,hA2⟩
 case round=>
  obtain ⟨done,hk,hi,hD,hA⟩:=hrel;have HK:=Uq hk;clear hk hit hd1 hA2
  rcases hi.step (P:=Tryz.prog) 0 with ⟨hall,hrun⟩ | ⟨n,g,w1,hmem,hdn,hrun,hi1,hA1,hs1,hent⟩
  ·have he:vd.mapF (λn f=>bif done n then vd.trim keep f else f) d.files=vd.mapF (λ_ f=>vd.trim keep f) d.files:=by
    unfold vd.mapF
    apply List.map_congr_left
    rintro ⟨n,f⟩ hx;have:=hall (n,bif done n then vd.trim keep f else f) (List.mem_map.2 ⟨_,hx,rfl⟩)
    show (n,bif done n then vd.trim keep f else f)=(n,vd.trim keep f)
    rw [show done n=true from this];rfl
   rw [he] at hD;clear he hall hi;go_wp2;go_end0;exact ⟨rfl,hD,hA⟩
  ·obtain ⟨f,hf,hg⟩:=vd.mapF_mem _ _ hmem;rw [hdn] at hg;obtain rfl:g=f:=hg;have hsyn:=ho.syn _ hf;have hnam:n.length≤60:=ho.nam _ hf
   have htot:g.1.length≤vd.total d.files:=by
    have:=vd.total_del d.files n;rw [vd.at_mem ho.nod hf] at this;omega
   have hcap:=ho.cap;have htc:=ho.tot;have hstay:=vd.stay_le keep g;obtain ⟨L,hL⟩:∃ L,g.1.length=L:=⟨_,rfl⟩;obtain ⟨Y,hY⟩:∃ Y,g.2=Y:=⟨_,rfl⟩;obtain ⟨K,hK⟩:∃ K,vd.stay keep g=K:=⟨_,rfl⟩
   have hsz:(crcm.mk g.1).size=L:=by rw [crcm.mk_size,hL]
   have hrem:0≤keep→keep.tmod ((L - Y + 1:Nat):Int)=(K:Int):=by
    intro h0;rw [Int.tmod_eq_emod_of_nonneg h0,← hK]
    have h2:=Int.emod_nonneg keep (b:=((g.1.length - g.2 + 1:Nat):Int)) (by omega)
    unfold vd.stay;rw [if_pos h0,hL,hY] at *;omega
   have hk0:¬ 0≤keep→K=0:=by
    intro h0;rw [← hK];unfold vd.stay;rw [if_neg h0]
   have htrim:vd.trim keep g=((g.1.take (Y + K)),Y + K):=by unfold vd.trim;rw [hK,hY]
   rw [show qF g=.agg #[.string (crcm.mk g.1),.int .i64 (Y:Int)] from by rw [← hY];rfl] at hrun hent
   rw [keyV] at hrun hent;simp only [hL,hY,hK] at hsyn htot hstay;obtain ⟨N,hN⟩:∃ N,Y + K=N:=⟨_,rfl⟩;rw [hN] at htrim;obtain ⟨Z,hZ⟩:∃ Z,L - Y + 1=Z:=⟨_,rfl⟩;rw [hZ] at hrem
   have e1:IntKind.i64.wrap ((L:Int) - (Y:Int))=(L:Int) - Y:=by rw [IntKind.wrap_i64];omega
   have e2:IntKind.i64.wrap ((L:Int) - (Y:Int) + 1)=(Z:Int):=by rw [IntKind.wrap_i64];omega
   have e3:IntKind.i64.wrap ((Y:Int) + (K:Int))=(N:Int):=by rw [IntKind.wrap_i64];omega
   have hex:(crcm.mk g.1).extract 0 N=crcm.mk (g.1.take N):=by rw [Lib.extract_eq];show (⟨((crcm.mk g.1).data.toList.drop 0 |>.take (N - 0)).toArray⟩:ByteArray)=_;rw [crcm.mk_toList];rfl
   have hmin:min N L=N:=by omega
   have hsz2:(crcm.mk (g.1.take N)).size=N:=by rw [crcm.mk_size,List.length_take];omega
   obtain ⟨M,hM⟩:∃ M,vd.mapF (λn f=>bif done n then vd.trim keep f else f) d.files=M:=⟨_,rfl⟩
   obtain ⟨M',hM'⟩:∃ M',vd.mapF (λm f=>bif (decide (m=n) || done m) then vd.trim keep f else f) d.files=M':=⟨_,rfl⟩
   have hput:vd.put M n (g.1.take N,N)=M':=by
    rw [← hM,← hM',← htrim]
    have:=vd.mapF_put (λn f=>bif done n then vd.trim keep f else f) (λm f=>bif (decide (m=n) || done m) then vd.trim keep f else f) d.files ho.nod hf (λm f hne=>by rw [decide_eq_false hne];rfl)
    rw [decide_eq_true rfl] at this;exact this
   have hatM:vd.at_ M n=g:=vd.at_mem (by rw [← hM,vd.mapF_names];exact ho.nod) (by rw [← hM];exact hmem)
   have hhas:vd.has M n=true:=vd.has_mem (by rw [← hM];exact hmem)
   have htM:vd.total M≤d.cap:=by
    rw [← hM]
    refine Nat.le_trans (vd.total_mapF _ _ (λx _=>?_)) htc
    cases done x.1
    ·exact Nat.le_refl _
    ·exact vd.trim_len keep x.2
   rw [hM] at hi hi1 hD hmem
   have hD1:Dk w1 p b { d with files:=M,off:=true }:=hD.apart hA1 (by simp;omega) (by simp;omega)
   have hless:=vd.rest_less hf hdn
   have hlen:(g.1.take N).length=N:=by rw [List.length_take];omega
   have HL:=Uq hless;have HLen:=Uq hlen;have HP:=Uq hput;have HAt:=Uq hatM;have HH:=Uq hhas;have HM':=Uq hM';clear htrim hf hmem hdn hY hK hM hM' hput hatM hhas hlen hless hL
   have hfin:Calls Tryz.prog 273 #[.pointer (some ⟨p,0,none⟩),.string (crcm.mk n),.agg #[.string (crcm.mk (g.1.take N)),.int .i64 (N:Int)],.bool false] (w1.alloc (.cells #[.string (crcm.mk (g.1.take N)),.int .i64 (N:Int)] 357)) (λe w'=>e=.returned (.tuple #[])∧It w' w.heap.size b M' (λm=>decide (m=n) || done m)∧Dk w' p b { d with files:=M',off:=true }∧Apart [p,b] w w'):=by
    have hb2:Below w1.heap.size w1 (w1.alloc (.cells #[.string (crcm.mk (g.1.take N)),.int .i64 (N:Int)] 357)):=(Below.refl _ w1).alloc (Nat.le_refl _) _;have hA2:=Apart.of_below hb2 [];have hr:=hi1.lt
    refine (Zi (d:={ d with files:=M,off:=true }) n (g.1.take N,N) false (hD1.apart hA2 (by simp) (by simp)) ?_ hcap htM ?_ (λh=>by cases h)).mono ?_
    ·unfold maxLen;omega
    ·show vd.total M + (g.1.take N).length≤(vd.at_ M n).1.length + d.cap
     rw [HAt.out,HLen.out]
     have:g.1.length=L:=by rw [← hsz,crcm.mk_size]
     omega
    ·rintro e w3 ⟨rfl,h1,h2,h3⟩;have h4:vd.setF M n (g.1.take N,N) false=M':=HP.out
     have h5:=(hi1.apart hA2 (by simp) (by simp)).stays h2 (by simp;omega) HH.out (h3 HH.out rfl) (by rw [HP.out];have:=h1.map;rw [h4] at this;exact this)
     rw [HP.out] at h5;rw [h4] at h1;refine ⟨rfl,h5,h1,?_⟩
     have hA3:Apart [p,b] w w1:=hA.then hA1 (by simp) (by simp)
     exact hA3.then ((hA2.mono (T:=[p,b]) (by simp)).trans h2) (by simp) (by simp)
   by_cases h0:0≤keep
   ·have hr:=hrem h0;clear hrem hk0;go_wp2_with fail;refine hfin.mono ?_;rintro e w3 ⟨rfl,h1,h2,h3⟩;go_wp2_with fail
    go_roundg (vd.rest (λm=>decide (m=n) || done m) d.files)
    case rel=>exact ⟨λm=>decide (m=n) || done m,rfl,by rw [HM'.out];exact h1,by rw [HM'.out];exact h2,h3⟩
    case measure=>rw [HK.out];exact HL.out
   ·obtain rfl:=hk0 h0
    obtain rfl:Y=N:=by omega
    clear hrem hk0;go_wp2_with fail;refine hfin.mono ?_;rintro e w3 ⟨rfl,h1,h2,h3⟩;go_wp2_with fail
    go_roundg (vd.rest (λm=>decide (m=n) || done m) d.files)
    case rel=>exact ⟨λm=>decide (m=n) || done m,rfl,by rw [HM'.out];exact h1,by rw [HM'.out];exact h2,h3⟩
    case measure=>rw [HK.out];exact HL.out
namespace vd
def goes (d:Disk) (always:Bool):Bool:=decide (d.left ≠ 1) || (always || decide (d.keep.tmod 2 ≠ 0))
def less (d:Disk):Disk:={ d with left:=d.left - 1 }
def done (d:Disk) (f2:Files) (always:Bool):Disk:=
 let d2:=if goes d always then { less d with files:=f2 } else less d
 if d.left=1 then crash d2 d.keep else d2
def doneE (d:Disk):Nat:=if d.left=1 then 6 else 0
end vd
theorem Vk {w:World} {p b:Nat} {d:vd.Disk} (f2:vd.Files) (always:Bool) (F:Nat) (caps:Array Value) (hd:Dk w p b d) (ho:vd.Ok d) (ho2:vd.Ok { d with files:=f2 }) (eg:∀ args w,(callFunc F args).run Tryz.prog w=.ok (.enter F args) w)
  (hf:∀ w1,Dk w1 p b (vd.less d)→Apart [p] w w1→Calls Tryz.prog F caps w1 (λe w2=>e=.returned (.tuple #[])∧Dk w2 p b { vd.less d with files:=f2 }∧Apart [p,b] w1 w2)) :
  Calls Tryz.prog 329 #[dptr p,.bool always,.func (.func F) #[] caps] w (λe w'=>e=.returned (.int .i64 (vd.doneE d:Nat))∧Dk w' p b (vd.done d f2 always)∧Apart [p,b] w w'):=by
 have hpb:=hd.ne;have hpl:=hd.blk.lt;have hbl:=hd.map.lt;obtain ⟨n,hn⟩:∃ n,d.left=n:=⟨_,rfl⟩;have hln:=ho.lef;rw [hn] at hln;obtain ⟨m,hm⟩:∃ m,n - 1=m:=⟨_,rfl⟩;obtain ⟨k,hk⟩:∃ k,d.keep=k:=⟨_,rfl⟩;have z4:=hd.blk.free 4
 have q4:w.cell? ⟨p,4,none⟩=some (.int .i64 (n:Int)):=by rw [← hn];exact hd.blk.cell 4 _ rfl
 have q5:w.cell? ⟨p,5,none⟩=some (.int .i64 k):=by rw [← hk];exact hd.blk.cell 5 _ rfl
 have e1:IntKind.i64.wrap ((n:Int) - 1)=(n:Int) - 1:=by rw [IntKind.wrap_i64];omega
 have e2:max ((n:Int) - 1) 0=(m:Int):=by omega
 have hA1:=Apart.setCell w p 4 (.int .i64 (m:Int))
 have hd1:Dk (w.setCell ⟨p,4,none⟩ (.int .i64 (m:Int))) p b (vd.less d):=by
  refine ⟨?_,hd.map.apart hA1 (by simp;exact λe=>hpb e.symm)⟩
  have:=hd.blk.set 4 (.int .i64 (m:Int));rw [← hm,← hn] at this ⊢;exact this
 have q5':=hd1.blk.cell 5 _ rfl
 rw [show (vd.less d).keep=k from hk] at q5'
 have hcall:=hf _ hd1 hA1
 have hc2:=hA1.mono (T:=[p,b]) (by simp)
 obtain ⟨W,hW⟩:∃ W,w.setCell ⟨p,4,none⟩ (.int .i64 (m:Int))=W:=⟨_,rfl⟩;unfold dptr
 have ho1:vd.Ok (vd.less d):=⟨ho.cap,ho.tot,ho.nod,ho.syn,ho.nam,by show d.left - 1≤_;have:=ho.lef;omega⟩
 have ho3:vd.Ok { vd.less d with files:=f2 }:=⟨ho2.cap,ho2.tot,ho2.nod,ho2.syn,ho2.nam,ho1.lef⟩
 have hdone:∀ D2,D2=(if vd.goes d always then { vd.less d with files:=f2 } else vd.less d)→vd.done d f2 always=if n=1 then vd.crash D2 k else D2:=by
  rintro D2 rfl;rw [← hn,← hk];rfl
 have hE:vd.doneE d=if n=1 then 6 else 0:=by rw [← hn];rfl
 have hgo:vd.goes d always=(decide (n ≠ 1) || (always || decide (k.tmod 2 ≠ 0))):=by rw [← hn,← hk];rfl
 have HD:=Uq hdone;have HE:=Uq hE;have HG:=Uq hgo
 have HC:Hid (Dk W p b (vd.less d)):=by rw [← hW];exact Uq hd1
 rw [hW] at hc2 q5' hcall
 have HK3:Hid (∀ (w2:World) (f:vd.Files),Dk w2 p b { vd.less d with files:=f }→w2.cell? ⟨p,5,none⟩=some (.int .i64 k)):=Uq λw2 f h=>by rw [← hk];exact h.blk.cell 5 _ rfl
 clear hdone hE hgo hd1 hA1 hf hd ho2 ho hn hm hk
 go_enter Tryz.func329,Tryz.ntmps329
 by_cases h1:n=1
 ·subst h1
  obtain rfl:m=0:=by omega
  rw [show ((0:Nat):Int)=0 from rfl] at hW
  have hE6:vd.doneE d=6:=HE.out;have HE6:=Uq hE6;clear hE6
  by_cases hg:(always || decide (k.tmod 2 ≠ 0))=true
  ·have hfin:vd.done d f2 always=vd.crash { vd.less d with files:=f2 } k:=by
    rw [HD.out _ rfl,if_pos rfl,HG.out,hg,Bool.or_true,if_pos rfl]
   have HF:=Uq hfin;clear hfin
   cases always with
   | true=>
    clear hg;go_wp2_with fail;refine hcall.mono ?_;rintro e w2 ⟨rfl,hd2,hA2⟩;have q5:=HK3.out _ _ hd2;go_wp2_with fail;refine (ZA k hd2 ho3).mono ?_;rintro e w3 ⟨rfl,hd3,hA3⟩;go_wp2_with fail;go_ret
    exact ⟨by rw [HE6.out];rfl,by rw [HF.out];exact hd3,(hc2.trans hA2).trans hA3⟩
   | false=>
    have hk2:¬ k.tmod 2=0:=by simpa using hg
    clear hg;go_wp2_with fail;refine hcall.mono ?_;rintro e w2 ⟨rfl,hd2,hA2⟩;have q5:=HK3.out _ _ hd2;go_wp2_with fail;refine (ZA k hd2 ho3).mono ?_;rintro e w3 ⟨rfl,hd3,hA3⟩;go_wp2_with fail;go_ret
    exact ⟨by rw [HE6.out];rfl,by rw [HF.out];exact hd3,(hc2.trans hA2).trans hA3⟩
  ·have hfin:vd.done d f2 always=vd.crash (vd.less d) k:=by
    have hg':=Bool.eq_false_iff.2 hg;rw [HD.out _ rfl,if_pos rfl,HG.out,hg'];rfl
   have HF:=Uq hfin;clear hfin
   cases always with
   | true=>exact absurd rfl hg
   | false=>
    have hk2:k.tmod 2=0:=by simpa using hg
    clear hg;go_wp2_with fail;refine (ZA k HC.out ho1).mono ?_;rintro e w3 ⟨rfl,hd3,hA3⟩;go_wp2_with fail;go_ret
    exact ⟨by rw [HE6.out];rfl,by rw [HF.out];exact hd3,hc2.trans hA3⟩
 ·have h1i:¬ (n:Int)=1:=by omega
  have hE6:vd.doneE d=0:=by rw [HE.out,if_neg h1]
  have hfin:vd.done d f2 always={ vd.less d with files:=f2 }:=by
   rw [HD.out _ rfl,if_neg h1,HG.out,decide_eq_true h1];rfl
  have HF:=Uq hfin;have HE6:=Uq hE6;clear hfin hE6;go_wp2_with fail;refine hcall.mono ?_;rintro e w2 ⟨rfl,hd2,hA2⟩;go_wp2_with fail;go_ret
  exact ⟨by rw [HE6.out];rfl,by rw [HF.out];exact hd2,hc2.trans hA2⟩
namespace vd
def there (d:Disk) (n:Name) (f2:Files) (always:Bool):Disk × Nat:=
 if nameErr d.off [n] ≠ 0 then (d,nameErr d.off [n]) else if has d.files n then (done d f2 always,doneE d) else (d,3)
theorem err_zero {off:Bool} {n:Name} (h:nameErr off [n]=0):off=false∧good n=true:=by
 unfold nameErr at h
 cases ho:off with
 | true=>rw [ho] at h;simp at h
 | false=>
  rw [ho] at h
  cases hgd:good n with
  | true=>exact ⟨rfl,rfl⟩
  | false=>simp [hgd] at h
end vd
theorem qm {f:FuncId} {fn:Func} {c:Code} (hf:Tryz.prog.funcs[f]?=some fn) (hname:(fn.name == "runtime.NumGoroutine")=false) (hb:fn.body=some c):∀ args w,(callFunc f args).run Tryz.prog w=.ok (.enter f args) w:=by
 intro args w
 have h1:fn.name ≠ "runtime.NumGoroutine":=by simpa using hname
 simp [callFunc,hf,h1,hb,mark]
theorem Xc {w:World} {g h:Nat} {F:Nat} {caps:Array Value} {f:vd.File} {R:Ending→World→Prop} (eg:∀ args w,(callFunc F args).run Tryz.prog w=.ok (.enter F args) w)
  (hg:Vb w g [.func (.func F) #[] caps] 411) (hh:Vb w h [.string (crcm.mk f.1),.int .i64 (f.2:Int)] 357)
  (hf:Calls Tryz.prog F (#[qF f] ++ caps) w (λe w2=>e=.returned (.tuple #[])∧R e w2)) :
  Calls Tryz.prog 403 #[.pointer (some ⟨g,0,none⟩),.pointer (some ⟨h,0,none⟩)] w (λe w2=>e=.returned (.tuple #[])∧R e w2):=by
 have q0:=hg.cell 0 _ rfl;have q1:=hh.cell 0 _ rfl;have q2:=hh.cell 1 _ rfl;unfold qF at hf
 go_enter Tryz.func403,Tryz.ntmps403
 go_wp2_with fail;refine hf.mono ?_;rintro e w2 ⟨rfl,hr⟩;go_wp2_with fail;go_end0;exact ⟨rfl,hr⟩
theorem Zy {w:World} {p b:Nat} {d:vd.Disk} (n:vd.Name) (f2:vd.Files) (always:Bool) (F:Nat) (caps:Array Value) (hn:n.length≤maxLen) (hd:Dk w p b d) (ho:vd.Ok d) (eg:∀ args w,(callFunc F args).run Tryz.prog w=.ok (.enter F args) w)
  (ho2:vd.has d.files n=true→vd.nameErr d.off [n]=0→vd.Ok { d with files:=f2 })
  (hf:vd.has d.files n=true→vd.nameErr d.off [n]=0→∀ w1,Dk w1 p b (vd.less d)→Apart [p] w w1→Calls Tryz.prog F (#[qF (vd.at_ d.files n)] ++ caps) w1 (λe w2=>e=.returned (.tuple #[])∧Dk w2 p b { vd.less d with files:=f2 }∧Apart [p,b] w1 w2)) :
  Calls Tryz.prog 318 #[dptr p,keyV n,.bool always,.func (.func F) #[] caps] w (λe w'=>e=.returned (.int .i64 ((vd.there d n f2 always).2:Nat))∧Dk w' p b (vd.there d n f2 always).1∧Apart [p,b] w w'):=by
 have hpb:=hd.ne;have hpl:=hd.blk.lt;have hbl:=hd.map.lt;obtain ⟨W,hW⟩:∃ W,(w.alloc (.cells #[.func (.func F) #[] caps] 411)).alloc (.cells #[.string (crcm.mk n)] 9)=W:=⟨_,rfl⟩;have hb1:Below w.heap.size w (w.alloc (.cells #[.func (.func F) #[] caps] 411)):=(Below.refl _ w).alloc (Nat.le_refl _) _;have hs1:(w.alloc (.cells #[.func (.func F) #[] caps] 411)).heap.size=w.heap.size + 1:=Array.size_push _
 have hb2:Below (w.heap.size + 1) (w.alloc (.cells #[.func (.func F) #[] caps] 411)) W:=by rw [← hW];exact (Below.refl _ _).alloc (by rw [hs1];omega) _
 have hs2:W.heap.size=w.heap.size + 2:=by rw [← hW];show (Array.push _ _).size=_;rw [Array.size_push,hs1]
 have hbW:Below w.heap.size w W:=hb1.trans (hb2.mono (by omega))
 have hv0:Vb W w.heap.size [.func (.func F) #[] caps] 411:=(hb2.block _ (by omega)).trans (Vb.new w _ _)
 have hv1:Vb W (w.heap.size + 1) [.string (crcm.mk n)] 9:=by
  have:=Vb.new (w.alloc (.cells #[.func (.func F) #[] caps] 411)) [.string (crcm.mk n)] 9;rw [hs1] at this;rw [← hW];exact this
 have hdW:Dk W p b d:=⟨(hbW.block p hpl).trans hd.blk,hd.map.below hbW⟩
 have hst:Strs W (.slice (some ⟨w.heap.size + 1,0,none⟩) 1 1) [n]:=⟨some ⟨w.heap.size + 1,0,none⟩,1,rfl,λk hk=>by
  obtain rfl:k=0:=by simp at hk;omega
  exact ⟨_,rfl,hv1.cell 0 _ rfl⟩⟩
 have hcn:=Zz hdW _ [n] hst (by simp) (by simp;exact hn)
 have hl:=hdW.map.look_ok Tryz.underlying175 Tryz.underlying9 (Qy _) n hn;have q2:=hdW.blk.cell 2 _ rfl
 have e91:=qm (f:=403) Tryz.func403 (by kernel_rfl) rfl
 obtain ⟨g,hg⟩:∃ g,vd.at_ d.files n=g:=⟨_,rfl⟩;obtain ⟨er,her⟩:∃ er,vd.nameErr d.off [n]=er:=⟨_,rfl⟩;rw [hg] at hl hf;rw [her] at hcn
 rw [show qF g=.agg #[.string (crcm.mk g.1),.int .i64 (g.2:Int)] from rfl,keyV] at hl
 obtain ⟨W3,hW3⟩:∃ W3,W.alloc (.cells #[.string (crcm.mk g.1),.int .i64 (g.2:Int)] 357)=W3:=⟨_,rfl⟩
 have hb3:Below W.heap.size W W3:=by rw [← hW3];exact (Below.refl _ _).alloc (Nat.le_refl _) _
 have hv2:Vb W3 W.heap.size [.string (crcm.mk g.1),.int .i64 (g.2:Int)] 357:=by rw [← hW3];exact Vb.new W _ _
 have hv3:Vb W3 w.heap.size [.func (.func F) #[] caps] 411:=(hb3.block _ (by omega)).trans hv0
 have hd3:Dk W3 p b d:=⟨(hb3.block p (by omega)).trans hdW.blk,hdW.map.below hb3⟩
 have hA3:Apart [p,b] w W3:=.of_below (hbW.trans (hb3.mono (by omega))) _
 have hres:vd.there d n f2 always=if er ≠ 0 then (d,er) else if vd.has d.files n then (vd.done d f2 always,vd.doneE d) else (d,3):=by rw [← her];rfl
 have hgood:er=0→vd.nameErr d.off [n]=0:=λh=>her.trans h
 have hact:vd.has d.files n=true→er=0→Calls Tryz.prog 329 #[dptr p,.bool always,.func (.func 403) #[] #[.pointer (some ⟨w.heap.size,0,none⟩),.pointer (some ⟨W.heap.size,0,none⟩)]] W3 (λe w'=>e=.returned (.int .i64 (vd.doneE d:Nat))∧Dk w' p b (vd.done d f2 always)∧Apart [p,b] W3 w'):=by
  intro hh he;refine Vk f2 always _ _ hd3 ho (ho2 hh (hgood he)) e91 ?_;intro w1 h1 hA1
  refine Xc eg (hv3.apart hA1 (by simp;omega)) (hv2.apart hA1 (by simp;omega)) ?_
  refine (hf hh (hgood he) w1 h1 ?_)
  exact (Apart.of_below (hbW.trans (hb3.mono (by omega))) [p]).trans hA1
 have HR:=Uq hres;have HACT:=Uq hact;have HD:=Uq hd3;have HDW:=Uq hdW;clear hres hact hf ho2 hd3 hdW hv3 hv2 hb3 hst hv1 hv0 hb2 hb1 hs1 hgood hg her ho hd hn e91 eg;unfold dptr keyV;unfold dptr at hcn
 go_enter Tryz.func318,Tryz.ntmps318
 go_wp2_with fail;refine hcn.mono ?_;rintro e w2 ⟨rfl,rfl⟩;clear hcn hW
 by_cases he:er=0
 ·subst he
  cases hh:vd.has d.files n with
  | true=>
   have hact:=HACT.out hh rfl;rw [hh] at hl;unfold dptr at hact;rw [hs2] at hact;go_wp2_with fail;refine hact.mono ?_;rintro e w4 ⟨rfl,hd4,hA4⟩;go_wp2_with fail;go_ret;rw [HR.out,hh];exact ⟨rfl,hd4,hA3.trans hA4⟩
  | false=>
   rw [hh] at hl;go_wp2_with fail;go_ret;rw [HR.out,hh];exact ⟨rfl,HD.out,hA3⟩
 ·have hei:¬ (er:Int)=0:=by omega
  clear hl;go_wp2_with fail;go_ret;rw [HR.out,if_pos he];exact ⟨rfl,HDW.out,.of_below hbW _⟩
section
variable {w:World} {p b gD gN gM gS:Nat} {d:vd.Disk} {n m:vd.Name} {f:vd.File}
theorem Q5 (f:vd.File):qF f=.agg #[.string (crcm.mk f.1),.int .i64 (f.2:Int)]:=rfl
theorem Zr:qF ([],0)=.agg #[.string ByteArray.empty,.int .i64 0]:=rfl
theorem Je (hd:Dk w p b d) (hD:Vb w gD [dptr p] 66) (hN:Vb w gN [keyV n] 9) (hn:n.length≤maxLen) (hc:d.cap≤1000000000) (ht:vd.total d.files≤d.cap) :
  Calls Tryz.prog 330 #[.pointer (some ⟨gD,0,none⟩),.pointer (some ⟨gN,0,none⟩)] w (λe w2=>e=.returned (.tuple #[])∧Dk w2 p b { d with files:=vd.put d.files n ([],0) }∧Apart [p,b] w w2):=by
 have q0:=hD.cell 0 _ rfl;have q1:=hN.cell 0 _ rfl
 have hs:=Zi n ([],0) false hd hn hc ht (by simp;omega) (λh=>by cases h)
 rw [Zr] at hs;unfold dptr at q0;unfold keyV at q1 hs
 go_enter Tryz.func330,Tryz.ntmps330
 go_wp2_with fail;refine hs.mono ?_;rintro e w2 ⟨rfl,h1,h2,_⟩;go_wp2_with fail;go_end0;exact ⟨rfl,h1,h2⟩
theorem Jd (hd:Dk w p b d) (hD:Vb w gD [dptr p] 66) (hN:Vb w gN [keyV n] 9) (hn:n.length≤maxLen) (hc:d.cap≤1000000000) (ht:vd.total d.files≤d.cap) (hh:vd.has d.files n=true) :
  Calls Tryz.prog 346 #[qF f,.pointer (some ⟨gD,0,none⟩),.pointer (some ⟨gN,0,none⟩)] w (λe w2=>e=.returned (.tuple #[])∧Dk w2 p b { d with files:=vd.del d.files n }∧Apart [p,b] w w2):=by
 obtain ⟨W,hW⟩:∃ W,w.alloc (.cells #[.string (crcm.mk f.1),.int .i64 (f.2:Int)] 357)=W:=⟨_,rfl⟩
 have hb1:Below w.heap.size w W:=by rw [← hW];exact (Below.refl _ w).alloc (Nat.le_refl _) _
 have hA1:=Apart.of_below hb1 [p,b];have hd1:Dk W p b d:=⟨(hb1.block p hd.blk.lt).trans hd.blk,hd.map.below hb1⟩
 have q0:=(show Vb W gD _ _ from (hb1.block _ hD.lt).trans hD).cell 0 _ rfl
 have q1:=(show Vb W gN _ _ from (hb1.block _ hN.lt).trans hN).cell 0 _ rfl
 have hs:=Zi n ([],0) true hd1 hn hc ht (by simp;omega) (λ_=>rfl)
 rw [Zr] at hs;have hdp:vd.setF d.files n ([],0) true=vd.del d.files n:=vd.del_put _ _ _ hh;rw [hdp] at hs;unfold dptr at q0;unfold keyV at q1 hs;rw [Q5]
 go_enter Tryz.func346,Tryz.ntmps346
 go_wp2_with fail;refine hs.mono ?_;rintro e w2 ⟨rfl,h1,h2,_⟩;go_wp2_with fail;go_end0;exact ⟨rfl,h1,hA1.trans h2⟩
theorem Vi (hd:Dk w p b d) (hD:Vb w gD [dptr p] 66) (hN:Vb w gN [keyV n] 9) (hn:n.length≤maxLen) (hc:d.cap≤1000000000) (ht:vd.total d.files≤d.cap) (ha:vd.at_ d.files n=f) :
  Calls Tryz.prog 320 #[qF f,.pointer (some ⟨gD,0,none⟩),.pointer (some ⟨gN,0,none⟩)] w (λe w2=>e=.returned (.tuple #[])∧Dk w2 p b { d with files:=vd.put d.files n (f.1,f.1.length) }∧Apart [p,b] w w2):=by
 obtain ⟨L,hL⟩:∃ L,f.1.length=L:=⟨_,rfl⟩
 have hsz:(crcm.mk f.1).size=L:=by rw [crcm.mk_size,hL]
 obtain ⟨W,hW⟩:∃ W,w.alloc (.cells #[.string (crcm.mk f.1),.int .i64 (L:Int)] 357)=W:=⟨_,rfl⟩
 have hb1:Below w.heap.size w W:=by rw [← hW];exact (Below.refl _ w).alloc (Nat.le_refl _) _
 have hA1:=Apart.of_below hb1 [p,b];have hd1:Dk W p b d:=⟨(hb1.block p hd.blk.lt).trans hd.blk,hd.map.below hb1⟩
 have q0:=(show Vb W gD _ _ from (hb1.block _ hD.lt).trans hD).cell 0 _ rfl
 have q1:=(show Vb W gN _ _ from (hb1.block _ hN.lt).trans hN).cell 0 _ rfl
 have hvW:Vb W w.heap.size [.string (crcm.mk f.1),.int .i64 (L:Int)] 357:=by rw [← hW];exact Vb.new w _ _
 have q2:=hvW.cell 0 _ rfl;have q3:=hvW.cell 1 _ rfl
 have hs:=Zi n (f.1,L) false hd1 hn hc ht (by rw [ha];show _ + f.1.length≤f.1.length + _;omega) (λh=>by cases h)
 rw [Q5] at hs;unfold dptr at q0;unfold keyV at q1 hs;rw [Q5];clear ha
 go_enter Tryz.func320,Tryz.ntmps320
 go_wp2_with fail;refine hs.mono ?_;rintro e w2 ⟨rfl,h1,h2,_⟩;go_wp2_with fail;go_end0
 exact ⟨rfl,by rw [hL];exact h1,hA1.trans h2⟩
theorem Jf {s:List UInt8} (hd:Dk w p b d) (hS:Vb w gS [.string (crcm.mk s)] 9) (hD:Vb w gD [dptr p] 66) (hN:Vb w gN [keyV n] 9) (hn:n.length≤maxLen) (hc:d.cap≤1000000000) (ht:vd.total d.files≤d.cap) (ha:vd.at_ d.files n=f) (hsp:vd.total d.files + s.length≤d.cap) :
  Calls Tryz.prog 319 #[qF f,.pointer (some ⟨gS,0,none⟩),.pointer (some ⟨gD,0,none⟩),.pointer (some ⟨gN,0,none⟩)] w (λe w2=>e=.returned (.tuple #[])∧Dk w2 p b { d with files:=vd.put d.files n (f.1 ++ s,f.2) }∧Apart [p,b] w w2):=by
 have htd:=vd.total_del d.files n;rw [ha] at htd;have hcat:crcm.mk f.1 ++ crcm.mk s=crcm.mk (f.1 ++ s):=crcm.mk_append _ _;have hz1:(crcm.mk f.1).size=f.1.length:=crcm.mk_size _;have hz2:(crcm.mk s).size=s.length:=crcm.mk_size _;obtain ⟨L,hL⟩:∃ L,f.1.length=L:=⟨_,rfl⟩;obtain ⟨L2,hL2⟩:∃ L,s.length=L:=⟨_,rfl⟩
 have hno:¬ 9223372036854775807 < L + L2:=by omega
 obtain ⟨W0,hW0⟩:∃ W,w.alloc (.cells #[.string (crcm.mk f.1),.int .i64 (f.2:Int)] 357)=W:=⟨_,rfl⟩
 have hb0:Below w.heap.size w W0:=by rw [← hW0];exact (Below.refl _ w).alloc (Nat.le_refl _) _
 have hv0:Vb W0 w.heap.size [.string (crcm.mk f.1),.int .i64 (f.2:Int)] 357:=by rw [← hW0];exact Vb.new w _ _
 obtain ⟨W,hW⟩:∃ W,W0.setCell ⟨w.heap.size,0,none⟩ (.string (crcm.mk (f.1 ++ s)))=W:=⟨_,rfl⟩
 have hb1:Below w.heap.size w W:=by rw [← hW];exact hb0.trans ((Apart.setCell W0 w.heap.size 0 _).below _ hb0.size (by simp))
 have hv1:Vb W w.heap.size [.string (crcm.mk (f.1 ++ s)),.int .i64 (f.2:Int)] 357:=by rw [← hW];exact hv0.set 0 _
 have p0:=hv0.cell 0 _ rfl;have p1:=hv0.free 0;have p2:=hv1.cell 0 _ rfl;have p3:=hv1.cell 1 _ rfl;have hA1:=Apart.of_below hb1 [p,b];have hd1:Dk W p b d:=⟨(hb1.block p hd.blk.lt).trans hd.blk,hd.map.below hb1⟩
 have q0:=(show Vb W gD _ _ from (hb1.block _ hD.lt).trans hD).cell 0 _ rfl
 have q1:=(show Vb W gN _ _ from (hb1.block _ hN.lt).trans hN).cell 0 _ rfl
 have qs:=(show Vb W0 gS _ _ from (hb0.block _ hS.lt).trans hS).cell 0 _ rfl
 have hs:=Zi n (f.1 ++ s,f.2) false hd1 hn hc ht (by rw [ha];show _ + (f.1 ++ s).length≤f.1.length + _;rw [List.length_append];omega) (λh=>by cases h)
 rw [Q5] at hs;rw [hL] at hz1;rw [hL2] at hz2;unfold dptr at q0;unfold keyV at q1 hs;rw [Q5];clear ha hL hL2
 go_enter Tryz.func319,Tryz.ntmps319
 go_wp2_with fail;refine hs.mono ?_;rintro e w2 ⟨rfl,h1,h2,_⟩;go_wp2_with fail;go_end0;exact ⟨rfl,h1,hA1.trans h2⟩
theorem Jc (hd:Dk w p b d) (hD:Vb w gD [dptr p] 66) (hN:Vb w gN [keyV n] 9) (hM:Vb w gM [keyV m] 9) (hn:n.length≤maxLen) (hm:m.length≤maxLen) (hc:d.cap≤1000000000) (ht:vd.total d.files≤d.cap) (hh:vd.has d.files n=true) (ha:vd.at_ d.files n=f) :
  Calls Tryz.prog 408 #[qF f,.pointer (some ⟨gD,0,none⟩),.pointer (some ⟨gN,0,none⟩),.pointer (some ⟨gM,0,none⟩)] w (λe w2=>e=.returned (.tuple #[])∧Dk w2 p b { d with files:=vd.put (vd.del d.files n) m f }∧Apart [p,b] w w2):=by
 obtain ⟨W,hW⟩:∃ W,w.alloc (.cells #[.string (crcm.mk f.1),.int .i64 (f.2:Int)] 357)=W:=⟨_,rfl⟩
 have hb1:Below w.heap.size w W:=by rw [← hW];exact (Below.refl _ w).alloc (Nat.le_refl _) _
 have hA1:=Apart.of_below hb1 [p,b]
 have hvW:Vb W w.heap.size [.string (crcm.mk f.1),.int .i64 (f.2:Int)] 357:=by rw [← hW];exact Vb.new w _ _
 have hpl:=hd.blk.lt;have hbl:=hd.map.lt;have hd1:Dk W p b d:=⟨(hb1.block p hd.blk.lt).trans hd.blk,hd.map.below hb1⟩;have vD:Vb W gD _ _:=(hb1.block _ hD.lt).trans hD;have vN:Vb W gN _ _:=(hb1.block _ hN.lt).trans hN;have vM:Vb W gM _ _:=(hb1.block _ hM.lt).trans hM
 have hnot:∀ {g:Nat} {x:Value} {t:TypeId},Vb w g [x] t→g ∉ [p,b]:=by
  intro g x t hg hx
  rcases List.mem_cons.1 hx with rfl | hx
  ·have:=hd.blk;unfold Vb at this hg;rw [hg] at this
   injection this with e
   simp [zO] at e
  ·rcases List.mem_cons.1 hx with rfl | hx
   ·obtain ⟨es,c,hb,_⟩:=hd.map;unfold Vb at hg;rw [hg] at hb
    cases hb
   ·cases hx
 have nD:=hnot hD;have nN:=hnot hN;have nM:=hnot hM;have q0:=vD.cell 0 _ rfl;have q1:=vN.cell 0 _ rfl
 have hs:=Zi n ([],0) true hd1 hn hc ht (by simp;omega) (λ_=>rfl)
 rw [Zr] at hs;have hdp:vd.setF d.files n ([],0) true=vd.del d.files n:=vd.del_put _ _ _ hh;rw [hdp] at hs;have htd:=vd.total_del d.files n;rw [ha] at htd
 have hs2:Hid (∀ w2,Dk w2 p b { d with files:=vd.del d.files n }→Calls Tryz.prog 273 #[dptr p,keyV m,qF f,.bool false] w2 (λe w3=>e=.returned (.tuple #[])∧Dk w3 p b { d with files:=vd.put (vd.del d.files n) m f }∧Apart [p,b] w2 w3)):=Uq λw2 h2=>
  (Zi m f false h2 hm hc (by show vd.total (vd.del d.files n)≤d.cap;omega) (by show vd.total (vd.del d.files n) + f.1.length≤_ + d.cap;omega) (λh=>by cases h)).mono (by rintro e w3 ⟨h1,h2,h3,_⟩;exact ⟨h1,h2,h3⟩)
 unfold dptr at q0;unfold keyV at q1 hs;rw [Q5];clear ha htd hdp hnot
 go_enter Tryz.func408,Tryz.ntmps408
 go_wp2_with fail;refine hs.mono ?_;rintro e w2 ⟨rfl,h1,h2,_⟩;have r0:=(vD.apart h2 nD).cell 0 _ rfl;have r1:=(vM.apart h2 nM).cell 0 _ rfl
 have vF:=hvW.apart h2 (by simp;omega)
 have r2:=vF.cell 0 _ rfl;have r3:=vF.cell 1 _ rfl;have hs3:=hs2.out w2 h1;unfold dptr at r0 hs3;unfold keyV at r1 hs3;rw [Q5] at hs3;go_wp2_with fail;refine hs3.mono ?_;rintro e w3 ⟨rfl,h3,h4⟩;go_wp2_with fail;go_end0;exact ⟨rfl,h3,(hA1.trans h2).trans h4⟩
end
end Go.Proofs.YtppibhieabideaaGreatDoor
