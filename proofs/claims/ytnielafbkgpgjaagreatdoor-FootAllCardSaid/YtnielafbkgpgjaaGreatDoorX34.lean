/- Initials, in plain words. -/
import Derived.Test.YtnielafbkgpgjaaGreatDoorX33
set_option linter.all false
set_option maxRecDepth 100000
set_option maxHeartbeats 8000000
namespace Go.Awp.B
def orB (b:BitVec 64) (t:Int):BitVec 64:=b ||| BitVec.ofNat 64 (2 ^ t.toNat)
def wb (l:List Ev) (b:BitVec 64) (i:Nat):BitVec 64:=
 if (decide (0<=(at' l i).t)&&decide ((at' l i).t<64)&&Yu l i (List.range l.length))=true then orB b (at' l i).t else b
def initP (l:List Ev):BitVec 64:=(List.range l.length).foldl (wb l) 0
end Go.Awp.B
namespace Go.Awp.R3
open Go.Awp.R1 Go Go.Awp Go.Proofs Go.Awp.B
def encU (b:BitVec 64):V:=.int .u64 (b.toNat:Int)
theorem or_step (b:BitVec 64) (t:Nat) (h:t<64):bitI .or .u64 (b.toNat:Int) (IntKind.u64.wrap (2 ^ t))=((orB b t).toNat:Int):=by
 have h1:(2:Nat) ^ t<2 ^ 64:=Nat.pow_lt_pow_right (by omega) h;have h2:IntKind.u64.wrap (2 ^ t)=((2 ^ t:Nat):Int):=by
  have:((2:Int) ^ t)=((2 ^ t:Nat):Int):=by simp
  have hm:(2:Nat) ^ 64=18446744073709551616:=rfl;rw[this];generalize 2 ^ t=m at *;rw[wrap_u64 (by omega) (by omega)]
 have h3:BitVec.ofInt IntKind.u64.bits (b.toNat:Int)=b:=by
  show BitVec.ofInt 64 _=b;rw[BitVec.ofInt_natCast];simp
 have h4:BitVec.ofInt IntKind.u64.bits ((2 ^ t:Nat):Int)=BitVec.ofNat 64 (2 ^ t):=by
  show BitVec.ofInt 64 _=_;rw[BitVec.ofInt_natCast]
 unfold bitI;rw[h2];simp only[h3,h4];unfold orB;have h5:(b ||| BitVec.ofNat 64 (2 ^ t)).toNat<18446744073709551616:=(b ||| BitVec.ofNat 64 (2 ^ t)).isLt;exact wrap_u64 (n:=((b ||| BitVec.ofNat 64 (2 ^ t)).toNat:Int)) (by omega) (by omega)
theorem QKz (l:List Ev) (hl:Few l):Ql TC 66 [.slice (l.map encE)] (encU (initP l)):=by
 have hl0:=hl.len;refine ent Tryz.func66 fun L K hL hR hN hP=>?_;simp;refine Qw (WM (t:=3) (el:=3) (sz:=1) (by simp) (by decide)) ?_;refine QB (α:=Nat) (fun k=>k<=l.length)
  (fun k=>[(0,.slice (l.map encE)),(3,.vec (L,0) k),(9,.int .i64 l.length),(10,.int .i64 k)])
  (fun k=>[((L,0),.vec 3 1 ((List.range k).map encI) k true)]) (fun k=>l.length - k) 0 (by simp) twk ?_
 rintro k L1 K1 hk hL1 hk1 hnext hex hrt - -;simp;refine Qv.mk (fun hb=>?_) fun hb=>?_
 ·have hlt:k<l.length:=by simpa using hb
  have c1:k<=9223372036854775806:=by omega
  have c2:(k+1)*8<=140737488355328:=by omega
  simp[c1,c2,wr1 k (by omega)];exact hnext _ (k+1) (by omega) (by omega) (Qb (by simp) (by simp[List.range_succ]) (by simp))
 ·refine hex _ _ ?_;have hkn:¬ k<l.length:=by simpa using hb
  have hkl:k=l.length:=by omega
  subst hkl;simp;refine QB (α:=Nat × BitVec 64) (fun x=>x.1<=l.length/\x.2=(List.range x.1).foldl (wb l) 0)
   (fun x=>[(0,.slice (l.map encE)),(3,.vec (L,0) l.length),(5,encU x.2),(18,.slice (l.map encE)),(19,.int .i64 l.length),(20,.int .i64 x.1)])
   (fun x=>[((L,0),.vec 3 1 ((List.range l.length).map encI) l.length true)]) (fun x=>l.length - x.1) (0,0) (by simp) (Qb (by simp[encU]) (by simp) (by simp)) ?_
  rintro⟨i,b⟩ L2 K2 ⟨hi,hs⟩ hL2 - hnext2 hex2 hrt2 - -;simp at hi hs hL2;have n2:L≠L2:=by omega
  simp;refine Qv.mk (fun hb=>?_) fun hb=>?_
  ·have hlt:i<l.length:=by simpa using hb
   have hfs:(List.range (i+1)).foldl (wb l) 0=wb l b i:=by rw[List.range_succ,List.foldl_append,hs]<;>rfl
   have hf:=QBz l (List.range l.length) i hl (by simp;omega) (by simp) hlt;have off:wb l b i=b->K2=K2->True:=fun _ _=>trivial;rcases h0:decide (0<=(at' l i).t)<;>simp[ZY hlt,h0,wr1 i (by omega)]
   ·exact hnext2 _ (i+1,b) ⟨by simp;omega,by rw[hfs];simp[wb,h0]⟩ (by simp;omega) twk
   ·rcases h64:decide ((at' l i).t<64)<;>simp[wr1 i (by omega)]
    ·exact hnext2 _ (i+1,b) ⟨by simp;omega,by rw[hfs];simp[wb,h64]⟩ (by simp;omega) twk
    ·obtain⟨tn,htn⟩:∃ tn:Nat,(at' l i).t=tn:=⟨(at' l i).t.toNat,by simp at h0;omega⟩
     refine Qe.borrow hf (.cons (.refl _) (.cons (.vec (t:=3) (s:=1) (es:=(List.range l.length).map encI) (wr:=true) (by simp[n2.symm]) (Qn _)) (.cons (.refl _) .nil))) rfl (by decide) ?_;rcases hff:Yu l i (List.range l.length)<;>simp[htn,wr1 i (by omega)]
     ·exact hnext2 _ (i+1,b) ⟨by simp;omega,by rw[hfs];simp[wb,hff]⟩ (by simp;omega) twk
     ·have ht64:tn<64:=by rw[htn] at h64;simp at h64;omega
      have hmin:min tn IntKind.u64.bits=tn:=by show min tn 64=tn;omega
      simp[encU,wr1 i (by omega),hmin,or_step b tn ht64];exact hnext2 _ (i+1,orB b tn) ⟨by simp;omega,by rw[hfs];unfold wb;rw[h0,h64,hff,htn];rfl⟩ (by simp;omega) (Qb (by simp[encU]) (by simp) (by simp))
  ·refine hex2 _ _ ?_;have hin:¬ i<l.length:=by simpa using hb
   have hil:i=l.length:=by omega
   subst hil;simp;refine hR _ (.pure rfl ?_);rw[hs];exact .refl _
theorem Wow:Ql TC 104 [] (.bool true):=by
 have e1:newE 0 [⟨1,false⟩]=⟨0,[⟨1,false⟩]⟩:=rfl;have e2:newE 1 [⟨1,false⟩]=⟨1,[⟨1,false⟩]⟩:=rfl;have h1:=VZ 0 [⟨1,false⟩] (by decide);have h2:=VZ 1 [⟨1,false⟩] (by decide);rw[e1] at h1;rw[e2] at h2;have h3:=vT [⟨1,false⟩] [⟨1,false⟩] (by decide) (by decide);have h4:=vT [⟨1,false⟩] [⟨1,true⟩] (by decide) (by decide);rw[show clash [⟨1,false⟩] [⟨1,false⟩]=false from rfl] at h3;rw[show clash [⟨1,false⟩] [⟨1,true⟩]=true from rfl] at h4;refine ent Tryz.func104 fun L K hL hR hN hP=>?_;simp;refine Qc h1 ?_;simp;refine Qc h2 ?_;simp;refine Qc h3 ?_;simp;refine Qc h4 ?_;simp;exact hR _ (.pure rfl (.refl _))
theorem Woq:Ql TC 68 [] (.bool true):=by
 have h1:=VZ 0 [] (by decide);have h2:=VZ 1 [] (by decide);rw[show newE 0 []=⟨0,[]⟩ from rfl] at h1;rw[show newE 1 []=⟨1,[]⟩ from rfl] at h2;have hf:Few [⟨0,[]⟩,⟨0,[]⟩,⟨1,[]⟩]:=⟨by decide,by decide⟩
 have ht:Thr [⟨0,[]⟩,⟨0,[]⟩,⟨1,[]⟩]:=by unfold Thr;decide
 have h3:=Qgw _ hf ht;have b1:=Js _ 0 1 hf ht (by decide) (by decide);have b2:=Js _ 0 2 hf ht (by decide) (by decide);have b3:=Js _ 1 0 hf ht (by decide) (by decide);rw[show WH [⟨0,[]⟩,⟨0,[]⟩,⟨1,[]⟩] 0 1=true from rfl] at b1;rw[show WH [⟨0,[]⟩,⟨0,[]⟩,⟨1,[]⟩] 0 2=false from rfl] at b2;rw[show WH [⟨0,[]⟩,⟨0,[]⟩,⟨1,[]⟩] 1 0=false from rfl] at b3;refine ent Tryz.func68 fun L K hL hR hN hP=>?_;simp;refine Qe.frzP [] h1 (.cons (.refl _) (.cons .snil .nil)) (by simp) (by decide) rfl ?_;simp;refine Qe.frzP [] h1 (.cons (.refl _) (.cons .snil .nil)) (by simp) (by decide) rfl ?_;simp;refine Qe.frzP [] h2 (.cons (.refl _) (.cons .snil .nil)) (by simp) (by decide) rfl ?_;simp;refine Qc h3 ?_;simp[encO];refine Qc b1 ?_;simp;refine Qc b2 ?_;simp;refine Qc b3 ?_;simp;refine Qc Wow ?_;simp;exact hR _ (.pure rfl (.refl _))
theorem Wnz:Ql TC 36 [] (.bool true):=by
 have h1:=VZ 2 [] (by decide);have h2:=VZ 1 [] (by decide);rw[show newE 2 []=⟨2,[]⟩ from rfl] at h1;rw[show newE 1 []=⟨1,[]⟩ from rfl] at h2;have hf:Few [⟨2,[]⟩]:=⟨by decide,by decide⟩
 have hg:Few [⟨2,[]⟩,⟨1,[]⟩]:=⟨by decide,by decide⟩
 have h3:=QKz _ hf;have h4:=Wlq _ hg;rw[show initP [⟨2,[]⟩]=4 from rfl] at h3;rw[show qT [⟨2,[]⟩,⟨1,[]⟩]=[1,0] from rfl] at h4;have h5:=yw [1,0] [1,0] (by decide) (by decide);refine ent Tryz.func36 fun L K hL hR hN hP=>?_;simp;refine Qe.frzP [] h1 (.cons (.refl _) (.cons .snil .nil)) (by simp) (by decide) rfl ?_;simp;refine Qe.frzP [] h2 (.cons (.refl _) (.cons .snil .nil)) (by simp) (by decide) rfl ?_;simp;refine Qc h3 ?_;simp[encU];refine Qc h4 ?_;simp;refine Qc h5 ?_;simp;refine Qc Woq ?_;simp;exact hR _ (.pure rfl (.refl _))
end Go.Awp.R3
namespace Go.Awp.B
def Ext (e:Ev) (w r:List Ev):Prop:=∃ u v,w=u++e::v/\r=u++v/\∀ c∈u,depend c e=false
inductive Sw:List Ev->List Ev->Prop
 | mk (u:List Ev) (a b:Ev) (v:List Ev) (h:depend a b=false):Sw (u++a::b::v) (u++b::a::v)
inductive Eqv:List Ev->List Ev->Prop
 | refl (w:List Ev):Eqv w w
 | step {w x y:List Ev} (h:Sw w x) (k:Eqv x y):Eqv w y
inductive Wlz:List Ev->List Ev->Prop
 | nil:Wlz [] []
 | cons {e:Ev} {w r f:List Ev} (h:Ext e w r) (hm:∀ c s,Ext c w s->e.t<=c.t) (k:Wlz r f):Wlz w (e::f)
def ins {α:Type} (a:α):List α->List (List α)
 | []=>[[a]]
 | b::l=>(a::b::l)::(ins a l).map (b :: ·)
structure Found (l:List Ev) (n:Nat) (out:List (List Ev)):Prop where
 nodup:out.Nodup
 eqv:∀ y∈out,Eqv l y
 mem:l∈out
 closed:∀ m,m<n->∀ i,i<l.length->swapP (out.getD m []) i∈out
def uw (l:List Ev) (b:BitVec 64) (i:Nat):BitVec 64:=orB b (at' l i).t
end Go.Awp.B
namespace Go.Awp.B
structure Rc where
 a:Int
 b:Int
 deriving DecidableEq
def JA (l:List Ev) (j i:Nat):Bool:=
 !((at' l i).t == (at' l j).t || !depend (at' l i) (at' l j))&&(List.range' (i+1) (j - (i+1))).all fun k=>!(WH l i k&&WH l k j)
def yJ (l:List Ev) (j:Nat):List Rc:=((List.range j).filter (JA l j)).map fun (i:Nat)=>⟨(i:Int),(j:Int)⟩
def QVq (l:List Ev):List Rc:=(List.range l.length).flatMap (yJ l)
end Go.Awp.B
namespace Go.Awp.B
def je (l:List Ev) (a b:Nat):List Ev:=l.take a++((List.range' (a+1) (b - (a+1))).filter fun k=>!WH l a k).map (at' l)++[at' l b]
def JK (l:List Ev) (r:Rc):List Ev:=if r.a<0∨r.b<=r.a∨(l.length:Int)<=r.b then [] else je l r.a.toNat r.b.toNat
end Go.Awp.B
namespace Go.Awp.R3
open Go.Awp.R1 Go Go.Awp Go.Proofs Go.Awp.B
def encC (r:Rc):V:=.agg [.int .i64 r.a,.int .i64 r.b]
attribute [simp] encC
theorem wq (p:Nat->Bool) (i:Nat):(List.range (i+1)).filter p=(List.range i).filter p++if p i=true then [i] else []:=by
 rw[List.range_succ,List.filter_append];cases hp:p i<;>simp[hp]
theorem jb (p:Nat->Bool) {i k:Nat} (h:i+1<=k):(List.range' (i+1) (k+1 - (i+1))).all p=((List.range' (i+1) (k - (i+1))).all p&&p k):=by
 rw[show k+1 - (i+1)=(k - (i+1))+1 by omega,List.range'_concat,List.all_append];simp only[List.all_cons,List.all_nil,Bool.and_true];rw[show i+1+1*(k - (i+1))=k by omega]
theorem zp {p:Nat->Bool} {i k j:Nat} (h:i+1<=k) (hj:k<j) (hp:p k=false):(List.range' (i+1) (j - (i+1))).all p=false:=by
 rw[List.all_eq_false];refine⟨k,?_,by simp -implicitDefEqProofs [hp]⟩;rw[List.mem_range'_1];omega
theorem zY {α:Type} (f:Nat->List α) (j:Nat):(List.range (j+1)).flatMap f=(List.range j).flatMap f++f j:=by
 rw[List.range_succ,List.flatMap_append];simp -implicitDefEqProofs
def rc (j i:Nat):Rc:=⟨i,j⟩
theorem QKq (l:List Ev) (hl:Few l) (ht:Thr l):Ql TC 34 [.slice (l.map encE)] (.slice ((QVq l).map encC)):=by
 have hl0:=hl.len;refine ent Tryz.func34 fun L K hL hR hN hP=>?_;simp -implicitDefEqProofs;refine Qc (Qgw l hl ht) ?_;simp -implicitDefEqProofs [encO];refine Qw (WM (t:=4) (el:=103) (sz:=2) (by simp -implicitDefEqProofs) (by decide)) ?_;refine QB (α:=Nat × List Rc) (fun x=>x.1<=l.length/\x.2=(List.range x.1).flatMap (yJ l)/\x.2.length<=1000*x.1)
  (fun x=>[(0,.slice (l.map encE)),(3,.ptr (L,0) 0),(4,.vec (L,1) x.2.length),(11,.int .i64 l.length),(12,.int .i64 x.1)])
  (fun x=>[((L,1),.vec 103 2 (x.2.map encC) x.2.length true),((L,0),.cells 157 (encO l).cells)]) (fun x=>l.length - x.1) (0,[]) (by simp -implicitDefEqProofs) (Qb (by simp -implicitDefEqProofs) (by simp -implicitDefEqProofs [encO]) (by simp -implicitDefEqProofs)) ?_
 rintro⟨j,out⟩ L1 K1 ⟨hj,hout,hol⟩ hL1 - hnext hex hrt - -;simp -implicitDefEqProofs at hj hout hol hL1;simp -implicitDefEqProofs;refine Qv.mk (fun hb=>?_) fun hb=>?_
 ·have hlt:j<l.length:=by simpa using hb
  have hsucc:=zY (yJ l) j;rw[<- hout] at hsucc;simp -implicitDefEqProofs;refine scopeJ fun K2 kn ke kr kp=>?_;simp -implicitDefEqProofs;refine QNw ?_;simp -implicitDefEqProofs;refine QB (α:=Nat × List Rc) (fun x=>x.1<=j/\x.2=out++((List.range x.1).filter (JA l j)).map (rc j)/\x.2.length<=1000*j+x.1)
   (fun x=>[(0,.slice (l.map encE)),(3,.ptr (L,0) 0),(4,.vec (L,1) x.2.length),(5,.int .i64 j),(11,.int .i64 l.length),(12,.int .i64 j),(15,.int .i64 j),(16,.int .i64 x.1)])
   (fun x=>[((L,1),.vec 103 2 (x.2.map encC) x.2.length true),((L,0),.cells 157 (encO l).cells)]) (fun x=>j - x.1) (0,out) (by simp -implicitDefEqProofs;omega) twk ?_
  rintro⟨i,o⟩ L3 K3 ⟨hi,ho,hlen⟩ hL3 - hnext3 hex3 hrt3 - -;simp -implicitDefEqProofs at hi ho hlen hL3;simp -implicitDefEqProofs;refine Qv.mk (fun hb=>?_) fun hb=>?_
  ·have hij:i<j:=by simpa using hb
   have hil:i<l.length:=by omega
   have hfs:=wq (JA l j) i;have no:JA l j i=false->out++((List.range (i+1)).filter (JA l j)).map (rc j)=o:=fun e=>by rw[hfs,e];simp -implicitDefEqProofs [ho]
   have yes:JA l j i=true->out++((List.range (i+1)).filter (JA l j)).map (rc j)=o++[rc j i]:=fun e=>by rw[hfs,e];simp -implicitDefEqProofs [ho]
   rcases heq:((at' l i).t == (at' l j).t)<;>simp -implicitDefEqProofs [ZY hil,ZY hlt,heq,wr1 i (by omega)]
   ·refine Qc (zu (at' l i) (at' l j) (hl.at hil) (hl.at hlt)) ?_;rcases hd:depend (at' l i) (at' l j)<;>simp -implicitDefEqProofs [wr1 i (by omega)]
    ·exact hnext3 _ (i+1,o) ⟨by simp -implicitDefEqProofs;omega,(no (by simp -implicitDefEqProofs [JA,heq,hd])).symm,by simp -implicitDefEqProofs;omega⟩ (by simp -implicitDefEqProofs;omega) twk
    ·refine QB (α:=Nat) (fun k=>i+1<=k/\k<=j/\((List.range' (i+1) (k - (i+1))).all fun k=>!(WH l i k&&WH l k j))=true)
      (fun k=>[(0,.slice (l.map encE)),(3,.ptr (L,0) 0),(4,.vec (L,1) o.length),(5,.int .i64 j),(6,.int .i64 i),(7,.int .i64 k),(11,.int .i64 l.length),(12,.int .i64 j),(15,.int .i64 j),(16,.int .i64 i)])
      (fun k=>[((L,1),.vec 103 2 (o.map encC) o.length true),((L,0),.cells 157 (encO l).cells)]) (fun k=>j - k) (i+1) ⟨Nat.le_refl _,hij,by simp -implicitDefEqProofs⟩ twk ?_
     rintro k L4 K4 ⟨hik,hkj,hall⟩ hL4 - hnext4 hex4 hrt4 - -;simp -implicitDefEqProofs;refine Qv.mk (fun hb=>?_) fun hb=>?_
     ·have hkj':k<j:=by simpa using hb
      have hall2:=jb (fun k=>!(WH l i k&&WH l k j)) hik;simp -implicitDefEqProofs [encO];refine Qc (Js l i k hl ht (by omega) (by omega)) ?_;rcases hb1:WH l i k<;>simp -implicitDefEqProofs [wr1 k (by omega)]
      ·exact hnext4 _ (k+1) ⟨by omega,by omega,by rw[hall2,hall,hb1];simp -implicitDefEqProofs⟩ (by omega) (Qb (by simp -implicitDefEqProofs) (by simp -implicitDefEqProofs [encO]) (by simp -implicitDefEqProofs))
      ·refine Qc (Js l k j hl ht (by omega) (by omega)) ?_;rcases hb2:WH l k j<;>simp -implicitDefEqProofs [wr1 k (by omega)]
       ·exact hnext4 _ (k+1) ⟨by omega,by omega,by rw[hall2,hall,hb2];simp -implicitDefEqProofs⟩ (by omega) (Qb (by simp -implicitDefEqProofs) (by simp -implicitDefEqProofs [encO]) (by simp -implicitDefEqProofs))
       ·refine hex4 _ _ ?_;simp -implicitDefEqProofs [wr1 i (by omega)];refine hnext3 _ (i+1,o) ⟨by simp -implicitDefEqProofs;omega,(no ?_).symm,by simp -implicitDefEqProofs;omega⟩ (by simp -implicitDefEqProofs;omega) (Qb (by simp -implicitDefEqProofs) (by simp -implicitDefEqProofs [encO]) (by simp -implicitDefEqProofs));unfold JA;rw[zp hik hkj' (by rw[hb1,hb2];rfl)];simp -implicitDefEqProofs
     ·refine hex4 _ _ ?_;have hkj':¬ k<j:=by simpa using hb
      have hkk:k=j:=by omega
      subst hkk;have d1:o.length<=9223372036854775806:=by omega
      have d2:(o.length+1)*16<=140737488355328:=by omega
      simp -implicitDefEqProofs [wr1 i (by omega),d1,d2];refine hnext3 _ (i+1,o++[rc k i]) ⟨by simp -implicitDefEqProofs;omega,(yes ?_).symm,by simp -implicitDefEqProofs;omega⟩ (by simp -implicitDefEqProofs;omega) (Qb (by simp -implicitDefEqProofs) (by simp -implicitDefEqProofs [encO,rc]) (by simp -implicitDefEqProofs));unfold JA;rw[heq,hd,hall]<;>rfl
   ·exact hnext3 _ (i+1,o) ⟨by simp -implicitDefEqProofs;omega,(no (by simp -implicitDefEqProofs [JA,heq])).symm,by simp -implicitDefEqProofs;omega⟩ (by simp -implicitDefEqProofs;omega) twk
  ·refine hex3 _ _ ?_;have hij:¬ i<j:=by simpa using hb
   have hii:i=j:=by omega
   subst hii;simp -implicitDefEqProofs;refine kn _ ?_;simp -implicitDefEqProofs [wr1 i (by omega)];exact hnext _ (i+1,o) ⟨by simp -implicitDefEqProofs;omega,by rw[hsucc,ho];rfl,by simp -implicitDefEqProofs;omega⟩ (by simp -implicitDefEqProofs;omega) twk
 ·refine hex _ _ ?_;have hjn:¬ j<l.length:=by simpa using hb
  have hjl:j=l.length:=by omega
  subst hjl;simp -implicitDefEqProofs;refine hR _ (.pure rfl ?_);rw[show QVq l=out from hout.symm];exact .vec (t:=103) (s:=2) (es:=out.map encC) (wr:=true) (by simp -implicitDefEqProofs) (Qn _)
theorem qG (p:Nat->Bool) {i k:Nat} (h:i+1<=k):(List.range' (i+1) (k+1 - (i+1))).filter p=(List.range' (i+1) (k - (i+1))).filter p++if p k=true then [k] else []:=by
 rw[show k+1 - (i+1)=(k - (i+1))+1 by omega,List.range'_concat,List.filter_append];rw[show i+1+1*(k - (i+1))=k by omega];cases hp:p k<;>simp[hp]
theorem Turned_ok (l:List Ev) (r:Rc) (hl:Few l) (ht:Thr l):Ql TC 35 [.slice (l.map encE),encC r] (.slice ((JK l r).map encE)):=by
 have hl0:=hl.len;refine ent Tryz.func35 fun L K hL hR hN hP=>?_;have nil:∀ s,JK l r=[]->Qf TC.P s [.tmp 4]=some [.snil]->K .ret s:=fun s h1 h2=>hR _ (.pure h2 (by rw[h1];exact .snil));rcases h1:decide (r.a<0)<;>simp[h1]
 case true=>exact nil _ (by unfold JK;rw[if_pos (.inl (by simpa using h1))]) rfl
 rcases h2:decide (r.b<=r.a)<;>simp
 case true=>exact nil _ (by unfold JK;rw[if_pos (.inr (.inl (by simpa using h2)))]) rfl
 rcases h3:decide ((l.length:Int)<=r.b)<;>simp
 case true=>exact nil _ (by unfold JK;rw[if_pos (.inr (.inr (by simpa using h3)))]) rfl
 simp at h1 h2 h3;obtain⟨a,ha⟩:∃ a:Nat,r.a=a:=⟨r.a.toNat,by omega⟩
 obtain⟨b,hb⟩:∃ b:Nat,r.b=b:=⟨r.b.toNat,by omega⟩
 have hab:a<b:=by omega
 have hbl:b<l.length:=by omega
 have hspec:JK l r=je l a b:=by unfold JK;rw[if_neg (by omega),ha,hb]<;>rfl
 rw[hspec] at hR;refine Qc (Qgw l hl ht) ?_;have c1:(a:Int)<=9223372036854775807:=by omega
 have c2:a*32<=140737488355328:=by omega
 have hov:Ye (List.replicate a (V.agg [.int .i64 0,.snil])) 0 (List.take a (List.map encE l))=(l.take a).map encE:=by
  unfold Ye;simp[List.map_take];omega
 have hmin:min l.length a=a:=by omega
 have hz:(a=0∨l=[])->List.take a (List.map encE l)=List.replicate a (V.agg [.int .i64 0,.snil]):=fun h=>by
  rcases h with h|h
  ·rw[h]<;>rfl
  ·subst h;simp at hbl
 have wa:IntKind.i64.wrap ((a:Int)+1)=(a:Int)+1:=wr1 a (by omega);rcases ha0:decide (a=0∨l=[])<;>simp at ha0<;>simp[encO,ha,hb,c1,c2,ha0,hov,wa]
 all_goals
  refine QB (α:=Nat × List Nat) (fun x=>a+1<=x.1/\x.1<=b/\x.2=(List.range' (a+1) (x.1 - (a+1))).filter (fun k=>!WH l a k)/\x.2.length<=x.1)
   (fun x=>[(0,.slice (l.map encE)),(3,.ptr (L,0) 0),(5,.ptr (L,1) 0),(6,.vec (L,2) (x.2.length+1)),(7,.int .i64 x.1)])
   (fun x=>[((L,2),.vec 88 2 ((l.take a++x.2.map (at' l)).map encE) (x.2.length+1) true),((L,1),.cells 157 (encO l).cells),((L,0),.cells 103 [.int .i64 a,.int .i64 b])])
   (fun x=>b - x.1) (a+1,[]) ⟨Nat.le_refl _,by simp;omega,by simp,by simp⟩ (Qb (by simp) (by first|(simp[encO];done)|simp[encO,hz (by simpa using ha0)]) (by simp)) ?_
  rintro⟨k,sel⟩ L1 K1 ⟨hak,hkb,hsel,hsl⟩ hL1 - hnext hex hrt - -;simp at hak hkb hsl hL1;have hsel:sel=(List.range' (a+1) (k - (a+1))).filter (fun k=>!WH l a k):=hsel;have d0:min a l.length+sel.length<=3000:=by omega
  have d1:min a l.length+sel.length<=9223372036854775806:=by omega
  have d2:(min a l.length+sel.length+1)*32<=140737488355328:=by omega
  simp;refine Qv.mk (fun hc=>?_) (fun hc=>?_)
  ·have hkb':k<b:=by simpa using hc
   have hkl:k<l.length:=by omega
   have hff:=qG (fun k=>!WH l a k) hak;rw[<- hsel] at hff;simp[encO];refine Qc (Js l a k hl ht (by omega) (by omega)) ?_;rcases hbf:WH l a k<;>simp[wr1 k (by omega),ZY hkl,d1,d2]
   ·exact hnext _ (k+1,sel++[k]) ⟨by simp;omega,by simp;omega,by rw[hff,hbf];rfl,by simp;omega⟩ (by simp;omega) (Qb (by simp) (by simp[encO]) (by simp))
   ·exact hnext _ (k+1,sel) ⟨by simp;omega,by simp;omega,by rw[hff,hbf];simp,by simp;omega⟩ (by simp;omega) (Qb (by simp) (by simp[encO]) (by simp))
  ·refine hex _ _ ?_;have hkb':¬ k<b:=by simpa using hc
   have hkk:k=b:=by omega
   subst hkk;simp[ZY hbl,d1,d2];refine hR _ (.pure rfl ?_);have e:je l a k=l.take a++sel.map (at' l)++[at' l k]:=by unfold je;rw[<- hsel]
   rw[e];exact .vec (t:=88) (s:=2) (es:=(l.take a++sel.map (at' l)++[at' l k]).map encE) (wr:=true) (by simp) (Qn _)
end Go.Awp.R3
namespace Go.Awp.B
section
variable (l:List Ev)
variable {l}
variable (l)
def th (i:Nat):Nat:=(at' l i).t.toNat
def cnt (t k:Nat):Nat:=(l.take k).countP fun e=>e.t.toNat == t
variable {l}
end
end Go.Awp.B
namespace Go.Awp.R3
open Go.Awp.R1 Go Go.Awp Go.Proofs Go.Awp.B
theorem Wnw:Ql TC 23 [] (.bool true):=by
 have h1:=VZ 0 [⟨3,true⟩] (by decide);have h2:=VZ 1 [⟨3,true⟩] (by decide);rw[show newE 0 [⟨3,true⟩]=⟨0,[⟨3,true⟩]⟩ from rfl] at h1;rw[show newE 1 [⟨3,true⟩]=⟨1,[⟨3,true⟩]⟩ from rfl] at h2;have hf:Few [⟨0,[⟨3,true⟩]⟩,⟨1,[⟨3,true⟩]⟩]:=⟨by decide,by decide⟩
 have ht:Thr [⟨0,[⟨3,true⟩]⟩,⟨1,[⟨3,true⟩]⟩]:=by unfold Thr;decide
 have h3:=QKq _ hf ht;have h4:=Turned_ok _ ⟨0,1⟩ hf ht;rw[show QVq [⟨0,[⟨3,true⟩]⟩,⟨1,[⟨3,true⟩]⟩]=[⟨0,1⟩] from rfl] at h3;rw[show JK [⟨0,[⟨3,true⟩]⟩,⟨1,[⟨3,true⟩]⟩] ⟨0,1⟩=[⟨1,[⟨3,true⟩]⟩] from rfl] at h4;refine ent Tryz.func23 fun L K hL hR hN hP=>?_;simp;refine Qc h1 ?_;simp;refine Qc h2 ?_;simp;refine Qc h3 ?_;simp;refine Qc h4 ?_;simp;refine Qc Wnz ?_;simp;exact hR _ (.pure rfl (.refl _))
end Go.Awp.R3
