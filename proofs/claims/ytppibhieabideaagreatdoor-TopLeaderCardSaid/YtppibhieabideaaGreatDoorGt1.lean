/- A part of the walk of the program, and of its plain law. -/
import Init.Data.BitVec.Lemmas
import Derived.Lib.Hide
namespace Go.Proofs.YtppibhieabideaaGreatDoor
theorem Uq {p:Prop} (h:p):Go.RowKit.Hid p:=Go.Lib.hid h
theorem Ur {α:Type} (a:List α) (i:Nat) (x:α):a.toArray.setIfInBounds i x=(a.set i x).toArray:=List.setIfInBounds_toArray ..
theorem Us {α:Type} {a b:α} {l:List α}:(a::l).set 0 b=b::l:=List.set_cons_zero
theorem Ut {α:Type} {a b:α} {l:List α} {n:Nat}:(a::l).set (n+1) b=a::l.set n b:=List.set_cons_succ
end Go.Proofs.YtppibhieabideaaGreatDoor
namespace Go.Proofs.YtppibhieabideaaGreatDoor.crcm
def bit1 (n:Nat):Nat:=if n % 2=1 then n / 2 ^^^ 3988292384 else n / 2
def bit4 (n:Nat):Nat:=bit1 (bit1 (bit1 (bit1 n)))
def tab:List Nat:=[0,498536548,997073096,651767980,1994146192,1802195444,1303535960,1342533948,3988292384,4027552580,3604390888,3412177804,2607071920,2262029012,2685067896,3183342108]
def nib (n:Nat):Nat:=n / 16 ^^^ tab.getD (n % 16) 0
def xI (n:Nat) (b:UInt8):Nat:=bit4 (bit4 (n ^^^ b.toNat))
def loop (n:Nat) (l:List UInt8):Nat:=l.foldl xI n
def more (n:Nat) (l:List UInt8):Nat:=4294967295 - loop (4294967295 - n) l
def sum (l:List UInt8):Nat:=more 0 l
theorem xor_lt {a b:Nat} (ha:a < 4294967296) (hb:b < 4294967296):a ^^^ b < 4294967296:=Nat.xor_lt_two_pow (n:=32) ha hb
theorem yU {n:Nat} (h:n < 4294967296):bit1 n < 4294967296:=by
 unfold bit1
 split
 ·exact xor_lt (by omega) (by decide)
 ·omega
theorem xM {n:Nat} (h:n < 4294967296):bit4 n < 4294967296:=yU (yU (yU (yU h)))
theorem u8_lt (b:UInt8):b.toNat < 4294967296:=Nat.lt_trans b.toNat_lt (by decide)
theorem Ue {n:Nat} (h:n < 4294967296) (b:UInt8):xI n b < 4294967296:=xM (xM (xor_lt h (u8_lt b)))
theorem loop_lt {n:Nat} (h:n < 4294967296) (l:List UInt8):loop n l < 4294967296:=by
 induction l generalizing n with
 | nil=>exact h
 | cons b r ih=>exact ih (Ue h b)
theorem yB (n:Nat) (l r:List UInt8):loop n (l ++ r)=loop (loop n l) r:=List.foldl_append
theorem loop_snoc (n:Nat) (l:List UInt8) (b:UInt8):loop n (l ++ [b])=xI (loop n l) b:=by rw [yB];rfl
theorem more_lt (n:Nat) (l:List UInt8):more n l < 4294967296:=by unfold more;omega
theorem je {n:Nat} (l r:List UInt8):more (more n l) r=more n (l ++ r):=by
 unfold more
 have h:=loop_lt (n:=4294967295 - n) (by omega) l
 rw [yB,show 4294967295 - (4294967295 - loop (4294967295 - n) l)=loop (4294967295 - n) l from by omega]
theorem more_sum (l r:List UInt8):more (sum l) r=sum (l ++ r):=je l r
theorem sum_nil:sum []=0:=rfl
theorem Uh (a b:Nat):bit1 (a ^^^ b)=bit1 a ^^^ bit1 b:=by
 have hp:(a ^^^ b) % 2=(a % 2 + b % 2) % 2:=by
  have h:(a ^^^ b) % 2=a % 2 ^^^ b % 2:=Nat.xor_mod_two_pow (n:=1);rw [h]
  rcases Nat.mod_two_eq_zero_or_one a with ha | ha <;> rcases Nat.mod_two_eq_zero_or_one b with hb | hb <;> rw [ha,hb] <;> rfl
 have hd:(a ^^^ b) / 2=a / 2 ^^^ b / 2:=Nat.xor_div_two;unfold bit1;rw [hp,hd]
 rcases Nat.mod_two_eq_zero_or_one a with ha | ha <;> rcases Nat.mod_two_eq_zero_or_one b with hb | hb <;> simp only [ha,hb,Nat.reduceAdd,Nat.reduceMod,Nat.reduceEqDiff,if_true,if_false]
 ·rw [Nat.xor_assoc]
 ·rw [Nat.xor_assoc,Nat.xor_comm (b / 2),← Nat.xor_assoc]
 ·rw [Nat.xor_assoc (a / 2) 3988292384,← Nat.xor_assoc 3988292384,Nat.xor_comm 3988292384 (b / 2),Nat.xor_assoc (b / 2),Nat.xor_self,Nat.xor_zero]
theorem Ug (a b:Nat):bit4 (a ^^^ b)=bit4 a ^^^ bit4 b:=by simp only [bit4,Uh]
theorem vP (n:Nat):bit1 (2 * n)=n:=by unfold bit1;rw [if_neg (by omega)];omega
theorem bit4_16 (n:Nat):bit4 (16 * n)=n:=by
 unfold bit4
 rw [show 16 * n=2 * (2 * (2 * (2 * n))) from by omega]
 simp only [vP]
theorem tab_ok:∀ r,r < 16→tab.getD r 0=bit4 r:=by decide
theorem split16 (n:Nat):16 * (n / 16) ^^^ n % 16=n:=by
 have h:n % 16 < 2 ^ 4:=by omega
 have:=Nat.two_pow_add_eq_or_of_lt h (n / 16)
 apply Nat.eq_of_testBit_eq
 intro i
 rw [Nat.testBit_xor,show (16:Nat) * (n / 16)=2 ^ 4 * (n / 16) from rfl,Nat.testBit_two_pow_mul,show n % 16=n % 2 ^ 4 from rfl,Nat.testBit_mod_two_pow]
 by_cases hi:i < 4
 ·have:¬ 4≤i:=by omega
  simp [hi,this]
 ·have h4:4≤i:=by omega
  simp only [hi,h4,decide_true,decide_false,Bool.true_and,Bool.false_and,Bool.xor_false]
  rw [show n / 16=n / 2 ^ 4 from rfl,Nat.testBit_div_two_pow]
  congr 1
  omega
theorem uh (n:Nat):nib n=bit4 n:=by
 unfold nib
 rw [tab_ok _ (by omega)]
 conv=>rhs;rw [← split16 n,Ug,bit4_16]
theorem byte1_nib (n:Nat) (b:UInt8):xI n b=nib (nib (n ^^^ b.toNat)):=by rw [uh,uh];rfl
end Go.Proofs.YtppibhieabideaaGreatDoor.crcm
namespace Go.Proofs.YtppibhieabideaaGreatDoor.crcm
def mk (l:List UInt8):ByteArray:=⟨l.toArray⟩
theorem mk_toList (l:List UInt8):(mk l).data.toList=l:=rfl
theorem mk_size (l:List UInt8):(mk l).size=l.length:=by simp [mk,ByteArray.size]
theorem mk_of (s:ByteArray):mk s.data.toList=s:=by unfold mk;simp
theorem mk_append (a b:List UInt8):mk a ++ mk b=mk (a ++ b):=by
 rw [← mk_of (mk a ++ mk b)]
 congr 1
theorem size_len (s:ByteArray):s.data.toList.length=s.size:=by rw [Array.length_toList];rfl
def u8 (n:Nat):UInt8:=UInt8.ofNat n
theorem u8_val {n:Nat} (h:n < 256):(u8 n).toNat=n:=by unfold u8;simp;omega
def le2 (n:Nat):List UInt8:=[u8 (n % 256),u8 (n / 256)]
def fourB (n:Nat):List UInt8:=[u8 (n % 256),u8 (n / 256 % 256),u8 (n / 65536 % 256),u8 (n / 16777216)]
theorem fourB_len (n:Nat):(fourB n).length=4:=rfl
theorem le2_len (n:Nat):(le2 n).length=2:=rfl
theorem xc {a b:Nat} (ha:a < 256) (hb:b < 256) (h:u8 a=u8 b):a=b:=by rw [← u8_val ha,h,u8_val hb]
theorem vh {a b:Nat} (ha:a < 4294967296) (hb:b < 4294967296) (h:fourB a=fourB b):a=b:=by
 unfold fourB at h;simp only [List.cons.injEq,and_true] at h;obtain ⟨h0,h1,h2,h3⟩:=h
 have e0:=xc (by omega) (by omega) h0
 have e1:=xc (by omega) (by omega) h1
 have e2:=xc (by omega) (by omega) h2
 have e3:=xc (by omega) (by omega) h3
 omega
def body (t:List UInt8):List UInt8:=le2 t.length ++ fourB (sum (le2 t.length ++ t)) ++ t
def put (t:List UInt8):List UInt8 × Nat:=if 65535 < t.length then ([],71) else (body t,0)
def said (s:List UInt8):Nat:=(s.getD 0 0).toNat + 256 * (s.getD 1 0).toNat
def get (s:List UInt8):List UInt8 × Nat × Nat:=
 if s=[] then ([],0,3) else if s.length < 6 then ([],0,10) else if s.length < 6 + said s then ([],0,10)
 else if fourB (sum (s.take 2 ++ (s.drop 6).take (said s)))=(s.drop 2).take 4 then ((s.drop 6).take (said s),6 + said s,0) else ([],0,20)
def num4 (a b c d:UInt8):Nat:=a.toNat + 256 * b.toNat + 65536 * c.toNat + 16777216 * d.toNat
theorem num4_lt (a b c d:UInt8):num4 a b c d < 4294967296:=by
 unfold num4;have:=a.toNat_lt;have:=b.toNat_lt;have:=c.toNat_lt;have:=d.toNat_lt;omega
theorem ZB (a:UInt8):u8 a.toNat=a:=by unfold u8;simp
theorem JU (a b c d:UInt8):fourB (num4 a b c d)=[a,b,c,d]:=by
 have ha:=a.toNat_lt;have hb:=b.toNat_lt;have hc:=c.toNat_lt;have hd:=d.toNat_lt;unfold fourB
 have e0:num4 a b c d % 256=a.toNat:=by unfold num4;omega
 have e1:num4 a b c d / 256 % 256=b.toNat:=by unfold num4;omega
 have e2:num4 a b c d / 65536 % 256=c.toNat:=by unfold num4;omega
 have e3:num4 a b c d / 16777216=d.toNat:=by unfold num4;omega
 rw [e0,e1,e2,e3,ZB,ZB,ZB,ZB]
theorem take4 (s:List UInt8) (h:6≤s.length):(s.drop 2).take 4=[s.getD 2 0,s.getD 3 0,s.getD 4 0,s.getD 5 0]:=by
 match s,h with
 | a :: b :: c :: d :: e :: f :: r,_=>rfl
theorem Vw (n:Nat) (hn:n < 4294967296) (s:List UInt8) (h:6≤s.length):fourB n=(s.drop 2).take 4 ↔ n=num4 (s.getD 2 0) (s.getD 3 0) (s.getD 4 0) (s.getD 5 0):=by
 rw [take4 s h,← JU]
 exact ⟨λe=>vh hn (num4_lt _ _ _ _) e,λe=>by rw [e]⟩
theorem get_six (s:List UInt8) (h:6≤s.length) (hn:6 + said s≤s.length):get s =
  if sum (s.take 2 ++ (s.drop 6).take (said s))=num4 (s.getD 2 0) (s.getD 3 0) (s.getD 4 0) (s.getD 5 0) then ((s.drop 6).take (said s),6 + said s,0) else ([],0,20):=by
 unfold get
 rw [if_neg (by intro e;rw [e] at h;simp at h),if_neg (by omega),if_neg (by omega)]
 have:=Vw (sum (s.take 2 ++ (s.drop 6).take (said s))) (more_lt _ _) s h
 by_cases hc:sum (s.take 2 ++ (s.drop 6).take (said s))=num4 (s.getD 2 0) (s.getD 3 0) (s.getD 4 0) (s.getD 5 0)
 ·rw [if_pos hc,if_pos (this.2 hc)]
 ·rw [if_neg hc,if_neg (λe=>hc (this.1 e))]
def all:Nat→List UInt8→List (List UInt8) × Nat
 | 0,_=>([],0)
 | f + 1,s=>if (get s).2.2=0 then ((get s).1 :: (all f (s.drop (get s).2.1)).1,(get s).2.1 + (all f (s.drop (get s).2.1)).2) else ([],0)
theorem get_ok {s:List UInt8} (h:(get s).2.2=0):6≤(get s).2.1∧(get s).2.1≤s.length∧(get s).2.1=6 + (get s).1.length:=by
 unfold get at h ⊢
 split at h
 ·cases h
 ·split at h
  ·cases h
  ·split at h
   ·cases h
   ·split at h
    ·rename_i h1 h2 h3 h4
     rw [if_neg h1,if_neg h2,if_neg h3,if_pos h4]
     refine ⟨Nat.le_add_right _ _,by show 6 + said s≤_;omega,?_⟩
     simp only [List.length_take,List.length_drop];omega
    ·cases h
theorem Uk:∀ (f g:Nat) (s:List UInt8),s.length≤f→s.length≤g→all f s=all g s:=by
 intro f
 induction f with
 | zero=>
  intro g s hf hg
  have:s=[]:=List.eq_nil_of_length_eq_zero (by omega)
  subst this
  cases g with
  | zero=>rfl
  | succ g=>rfl
 | succ f ih=>
  intro g s hf hg
  cases g with
  | zero=>
   have:s=[]:=List.eq_nil_of_length_eq_zero (by omega)
   subst this
   rfl
  | succ g=>
   unfold all
   by_cases h:(get s).2.2=0
   ·obtain ⟨h6,hle,_⟩:=get_ok h
    rw [if_pos h,if_pos h,ih g (s.drop (get s).2.1) (by rw [List.length_drop];omega) (by rw [List.length_drop];omega)]
   ·rw [if_neg h,if_neg h]
def allOf (s:List UInt8):List (List UInt8) × Nat:=all s.length s
theorem Zv {s:List UInt8} (h:(get s).2.2=0):allOf s=((get s).1 :: (allOf (s.drop (get s).2.1)).1,(get s).2.1 + (allOf (s.drop (get s).2.1)).2):=by
 obtain ⟨h6,hle,_⟩:=get_ok h;unfold allOf
 obtain ⟨n,hn⟩:∃ n,s.length=n + 1:=⟨s.length - 1,by omega⟩
 rw [hn]
 conv=>lhs;unfold all
 rw [if_pos h,Uk n (s.drop (get s).2.1).length _ (by rw [List.length_drop];omega) (Nat.le_refl _)]
theorem YT {s:List UInt8} (h:(get s).2.2 ≠ 0):allOf s=([],0):=by
 unfold allOf
 cases s.length with
 | zero=>rfl
 | succ n=>unfold all;rw [if_neg h]
theorem allOf_le (s:List UInt8):(allOf s).2≤s.length∧(allOf s).1.length≤s.length:=by
 suffices ∀ n (s:List UInt8),s.length≤n→(allOf s).2≤s.length∧(allOf s).1.length≤s.length from this s.length s (Nat.le_refl _)
 intro n
 induction n with
 | zero=>
  intro s hs
  have:s=[]:=List.eq_nil_of_length_eq_zero (by omega)
  subst this;exact ⟨Nat.le_refl _,Nat.le_refl _⟩
 | succ n ih=>
  intro s hs
  by_cases h:(get s).2.2=0
  ·obtain ⟨h6,hle,_⟩:=get_ok h;rw [Zv h]
   have:=ih (s.drop (get s).2.1) (by rw [List.length_drop];omega)
   simp only [List.length_drop,List.length_cons] at this ⊢;omega
  ·rw [YT h]
   simp
theorem Xx (t r:List UInt8) (h:t.length≤65535):said (body t ++ r)=t.length:=by
 unfold said body le2;simp only [List.cons_append,List.nil_append,List.append_assoc,List.getD_cons_zero,List.getD_cons_succ]
 rw [u8_val (by omega),u8_val (by omega)]
 omega
theorem body_len (t:List UInt8):(body t).length=6 + t.length:=by unfold body;simp [le2_len,fourB_len];omega
theorem vL (t r:List UInt8):((body t ++ r).drop 6).take t.length=t:=by
 have:body t ++ r=(le2 t.length ++ fourB (sum (le2 t.length ++ t))) ++ (t ++ r):=by unfold body;simp
 rw [this,List.drop_left' (by simp [le2_len,fourB_len]),List.take_left' rfl]
theorem uF (t r:List UInt8) (h:t.length≤65535):get (body t ++ r)=(t,6 + t.length,0):=by
 have hl:(body t ++ r).length=6 + t.length + r.length:=by rw [List.length_append,body_len]
 have hs:=Xx t r h;have hd:=vL t r;unfold get
 rw [if_neg (by intro e;rw [e] at hl;simp at hl;omega),if_neg (by omega),if_neg (by omega),hs,hd]
 have ht2:(body t ++ r).take 2=le2 t.length:=by
  have:body t ++ r=le2 t.length ++ (fourB (sum (le2 t.length ++ t)) ++ (t ++ r)):=by unfold body;simp
  rw [this,List.take_left' (le2_len _)]
 have ht4:((body t ++ r).drop 2).take 4=fourB (sum (le2 t.length ++ t)):=by
  have:body t ++ r=le2 t.length ++ (fourB (sum (le2 t.length ++ t)) ++ (t ++ r)):=by unfold body;simp
  rw [this,List.drop_left' (le2_len _),List.take_left' (fourB_len _)]
 rw [ht2,ht4,if_pos rfl]
end Go.Proofs.YtppibhieabideaaGreatDoor.crcm
