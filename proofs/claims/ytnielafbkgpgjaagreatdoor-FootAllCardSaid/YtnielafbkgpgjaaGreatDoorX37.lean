/- Small programs: whole ones. -/
import Derived.Test.YtnielafbkgpgjaaGreatDoorX36
import Derived.Test.YtnielafbkgpgjaaGreatDoorX32
set_option linter.all false
set_option maxRecDepth 100000
set_option maxHeartbeats 8000000
namespace Go.Awp.R1
open Go Go.Awp Go.Proofs Go.Awp.Sp
def wx (d:Dc):V:=.agg [.int .i64 d.sort,.str (bs d.name),.cplx .f64 (fz d.num.re) (fz d.num.im),(if d.sort=5 then .slice (Qr d.body) else .snil),.int .i64 d.place]
structure Wmq (d:Dc):Prop where
 good:GoodD d
 body:d.sort≠5->d.body=[]
theorem yf {σ:Qa}:∀ (ds:List Dc),(∀ d∈ds,Wmq d)->FrzL σ (ds.map wx) (ds.map QO)
 | [],_=>.nil
 | d::r,h=>by
   refine .cons ?_ (yf r fun x hx=>h x (by simp -implicitDefEqProofs [hx]));unfold wx QO;split
   ·exact .refl _
   ·rename_i h5;rw[(h d (by simp -implicitDefEqProofs)).body h5,Qr];exact .agg (.cons (.refl _) (.cons (.refl _) (.cons (.refl _) (.cons .snil (.cons (.refl _) .nil)))))
theorem zero84:QQ TC.P 84=some (.agg [.int .i64 0,.str (bs []),.cplx .f64 0 0,.snil,.int .i64 0]):=by kernel_rfl
theorem zero77:QQ TC.P 77=some (.agg [.snil]):=by kernel_rfl
def mkS (p vid:Id) (ds:List Dc):Qa:=[(p,.cells 77 [.vec vid ds.length]),(vid,.vec 84 5 (ds.map wx) ds.length true)]
theorem qU (p vid:Id) (hne:p≠vid) (ds:List Dc) (hn:ds.length<=1000) (srt:Int) (name:Bs) (z:Cx) (h5:srt≠5):
 ADet TC 39 [.int .i64 srt,.str (bs name),.cplx .f64 (fz z.re) (fz z.im),.ptr p 0] (mkS p vid ds) (.ret (.tup [])) (mkS p vid (ds++[⟨srt,name,z,[],0⟩])):=by
 have hz:=zero84;refine ent Tryz.func39 fun L K hL hR hN hP=>?_;have hL1:p.1<L:=hL p (by simp -implicitDefEqProofs [Qa.keys,mkS]);have hL2:vid.1<L:=hL vid (by simp -implicitDefEqProofs [Qa.keys,mkS]);have n1:=hne;have m1:=n1.symm;have a1:∀ j:Nat,¬ (L,j)=p:=fun j e=>by rw[<- e] at hL1;exact Nat.lt_irrefl _ hL1
 have a2:∀ j:Nat,¬ (L,j)=vid:=fun j e=>by rw[<- e] at hL2;exact Nat.lt_irrefl _ hL2
 have b1:∀ j:Nat,¬ p=(L,j):=fun j e=>a1 j e.symm;have b2:∀ j:Nat,¬ vid=(L,j):=fun j e=>a2 j e.symm;have c1:ds.length<=9223372036854775806:=by omega
 have c2:(ds.length+1)*72<=140737488355328:=by omega
 simp -implicitDefEqProofs [mkS,hz,c1,c2,n1];refine hN _ ?_;refine .keeps [] (mkS p vid (ds++[⟨srt,name,z,[],0⟩])) (vs:=[]) rfl (by simp -implicitDefEqProofs) (by simp -implicitDefEqProofs [mkS,wx,h5]) (by simp -implicitDefEqProofs) (by simp -implicitDefEqProofs [Qa.keys,mkS,n1]) (by simp -implicitDefEqProofs [Qa.keys,mkS]) (.refl _) ⟨rfl,rfl⟩
abbrev exMk:List Nat:=[6,18,1000038,1000086]
def MadeP (v:V):Prop:=∃ ds:List Dc,v = .agg [.slice (ds.map QO)]/\(∀ d∈ds,GoodD d)/\ds.length<=1000/\cntD ds<=500
theorem Uu:∀ {n:Nat} {s:St},JY n s->JY (n+1) s
 | 0,_,h=>h.elim
 | n+1,.mk _ _ _ _ _ _ _ _,h=>⟨h.1,h.2.1,h.2.2.1,h.2.2.2.1,h.2.2.2.2.1,h.2.2.2.2.2.1,h.2.2.2.2.2.2.1,fun s hs=>Uu (h.2.2.2.2.2.2.2.1 s hs),fun s hs=>Uu (h.2.2.2.2.2.2.2.2 s hs)⟩
theorem QFq (a b:List Dc):cntD (a++b)=cntD a+cntD b:=by
 induction a with
 | nil=>simp -implicitDefEqProofs [cntD]
 | cons x r ih=>rw[List.cons_append,cntD,cntD,ih];omega
theorem JI (a:List Dc):a.length<=cntD a:=by
 induction a with
 | nil=>simp -implicitDefEqProofs
 | cons x r ih=>rw[cntD,List.length_cons];omega
def wI (B:Nat) (ds:List Dc):Prop:=(∀ d∈ds,Wmq d)/\cntD ds<=B
theorem wI.add {B:Nat} {ds:List Dc} (h:wI B ds) {srt:Int} {name:Bs} {z:Cx} (h1:0<=srt/\srt<=4) (h2:name.length<=2) (h3:Xg z):wI (B+1) (ds++[⟨srt,name,z,[],0⟩]):=by
 refine⟨fun d hd=>?_,by have:=h.2;rw[QFq];simp -implicitDefEqProofs [cntD,cntL];omega⟩;rcases List.mem_append.1 hd with hd|hd
 ·exact h.1 d hd
 ·simp -implicitDefEqProofs at hd;subst hd;exact⟨⟨⟨h1.1,by show srt<=5;omega⟩,h2,h3,by simp -implicitDefEqProofs,by simp -implicitDefEqProofs⟩,fun _=>rfl⟩
theorem tm_le (n k:Int) (hk:0<k):-k<n.tmod k/\n.tmod k<k:=by
 rcases Int.le_total 0 n with h|h
 ·rw[Int.tmod_eq_emod_of_nonneg h];have h1:=Int.emod_nonneg n (show k≠0 by omega);have h2:=Int.emod_lt_of_pos n hk;omega
 ·obtain⟨m,rfl,hm⟩:∃ m:Int,n = -m/\0<=m:=⟨-n,by omega,by omega⟩
  rw[Int.neg_tmod,Int.tmod_eq_emod_of_nonneg hm];have h1:=Int.emod_nonneg m (show k≠0 by omega);have h2:=Int.emod_lt_of_pos m hk;omega
theorem td_le (n:Int) (h:-128<=n/\n<128):-8<=n.tdiv 16/\n.tdiv 16<=7:=by
 rcases Int.le_total 0 n with h0|h0
 ·rw[Int.tdiv_eq_ediv_of_nonneg h0];omega
 ·obtain⟨m,rfl,hm⟩:∃ m:Int,n = -m/\0<=m:=⟨-n,by omega,by omega⟩
  rw[Int.neg_tdiv,Int.tdiv_eq_ediv_of_nonneg hm];omega
theorem wrap_i8 {n:Int} (h1:-128<=n) (h2:n<128):IntKind.i8.wrap n=n:=by
 simp -implicitDefEqProofs [IntKind.wrap,IntKind.bits,IntKind.signed];omega
theorem gmake_ok (x:Sm) (hx:x.Ok):Va TC 25 [Zj x] MadeP:=by
 refine AFn.ctx (C:=TCe exMk) (C':=TC) rfl rfl ?_;have hz:=zero77;have hz2:=zero84;have hmany:=Ql.up (ex:=exMk) (many_ok x.cells hx.cells);refine ent Tryz.func25 fun L K hL hR hN hP=>?_;simp -implicitDefEqProofs [Zj,hz];refine Qc hmany ?_;simp -implicitDefEqProofs;have hn3:1+x.cells % 3=((1+x.cells % 3).toNat:Int):=by omega
 obtain⟨n1,hn1⟩:∃ n1:Nat,n1=(1+x.cells % 3).toNat:=⟨_,rfl⟩
 have hn1b:n1<=3:=by omega
 rw[hn3,<- hn1];refine Qw (Xf (id:=(L,2)) (o:=0) (el:=84) (sz:=5) (by simp -implicitDefEqProofs [Qa.get];exact⟨rfl,rfl⟩) rfl (by decide)) ?_;refine QB (α:=Nat × List Dc) (fun q=>q.1<=n1/\wI q.1 q.2) (fun q=>[(1,.ptr (L,0) 0),(2,.ptr (L,1) 0),(3,.ptr (L,2) 0),(4,.func (.func 39) [] [.ptr (L,2) 0]),(16,.int .u8 n1),(17,.int .u8 q.1)])
  (fun q=>mkS (L,2) (L,3) q.2++[((L,1),.cells 77 [.snil]),((L,0),.cells 25 [.int .u8 x.cells,.int .u8 x.array,.int .u8 x.mutexes,.int .u8 x.sems,.int .u8 x.budget,.int .i8 x.n,.slice (x.threads.map fun l=>.slice (l.map XH))])])
  (fun q=>n1 - q.1) (0,[]) ⟨by simp -implicitDefEqProofs,by simp -implicitDefEqProofs [wI,cntD]⟩ (Qb (by simp -implicitDefEqProofs) (by simp -implicitDefEqProofs [mkS]) (by simp -implicitDefEqProofs [mkS,Qa.keys])) ?_
 rintro⟨k,ds⟩ L1 K1 ⟨hk,hg⟩ hL1 - hnext hex hrt - -;obtain⟨hLL,m4,m5⟩:=llu L hL1;simp -implicitDefEqProofs at hk hg;simp -implicitDefEqProofs;refine Qv.mk (fun hb=>?_) fun hb=>?_
 ·have hkl:k<n1:=by simp -implicitDefEqProofs at hb;omega
  have hxn:=hx.n;obtain⟨c,hlet⟩:=Yj [120] k 9 (by decide) ⟨by omega,by omega⟩ (by decide);replace hlet:=Ql.up (ex:=exMk) hlet;simp -implicitDefEqProofs;obtain⟨q1,hq1⟩:∃ q1,x.n.tmod 4=q1:=⟨_,rfl⟩
  obtain⟨q2,hq2⟩:∃ q2,(x.n.tdiv 16).tmod 3=q2:=⟨_,rfl⟩
  have hq1b:=tm_le x.n 4 (by decide);have hq2b:=tm_le (x.n.tdiv 16) 3 (by decide);have htd:=td_le x.n hxn;have hw:=wrap_i8 (n:=x.n.tdiv 16) (by omega) (by omega);rw[hq1] at hq1b;rw[hq2] at hq2b;have f1:FloatKind.f64.nearest q1=fz q1:=Xi (by unfold QV;omega);have f2:FloatKind.f64.nearest q2=fz q2:=Xi (by unfold QV;omega);have hdl:=JI ds;have hg2:=hg.2;have hadd:=qU (L,2) (L,3) (by simp -implicitDefEqProofs) ds (by omega) 0 [120,c] ⟨q1,q2⟩ (by decide);have wk:IntKind.u8.wrap ((k:Int)+1)=((k+1:Nat):Int):=by rw[wrap_u8 (by omega) (by omega)];omega
  refine Zr 13 [23,27] (mkS (L,2) (L,3) ds) (mkS (L,2) (L,3) (ds++[⟨0,[120,c],⟨q1,q2⟩,[],0⟩])) (.tup []) rfl (by kernel_rfl) (by simp -implicitDefEqProofs [Qa.keys,mkS]) (by simp -implicitDefEqProofs [Qa.keys,mkS]) (by simp -implicitDefEqProofs [Qa.keys,mkS]) ?_;simp -implicitDefEqProofs [Qd];refine Qc hlet ?_;simp -implicitDefEqProofs [hq1,hq2,hw,f1,f2,mkS];simp only[mkS,List.map_append,List.length_append,List.map_cons,List.map_nil,List.length_cons,List.length_nil,Nat.zero_add] at hadd;refine DetS.of rfl rfl rfl rfl rfl (ADet.up hadd) rfl ?_ ?_
  ·simp -implicitDefEqProofs
  ·simp -implicitDefEqProofs [AOut.val,ASt.putD];refine⟨?_,?_⟩
   ·intro t ht v hv id hid;simp -implicitDefEqProofs at ht;rcases ht with rfl|rfl<;>simp -implicitDefEqProofs at hv<;>subst hv<;>simp -implicitDefEqProofs [Qq] at hid<;>subst hid<;>simp -implicitDefEqProofs [Qa.keys]
   ·exact hnext _ (k+1,ds++[⟨0,[120,c],⟨q1,q2⟩,[],0⟩]) ⟨by omega,hg.add (by decide) (by simp -implicitDefEqProofs) ⟨by simp only;omega,by simp only;omega⟩⟩ (by simp -implicitDefEqProofs;omega) (Qb (by simp -implicitDefEqProofs [wk]) (by simp -implicitDefEqProofs [mkS]) (by simp -implicitDefEqProofs [mkS,Qa.keys]))
 ·have hkl:k=n1:=by simp -implicitDefEqProofs at hb;omega
  subst hkl;simp -implicitDefEqProofs;refine hex _ _ ?_;have a4:x.array.tmod 4=x.array % 4:=Int.tmod_eq_emod_of_nonneg hx.array.1;simp -implicitDefEqProofs [a4,mkS];refine Yh (α:=List Dc) (fun q=>wI (k+1) q) (fun q=>[(1,.ptr (L,0) 0),(2,.ptr (L,1) 0),(3,.ptr (L,2) 0),(4,.func (.func 39) [] [.ptr (L,2) 0])]) (fun q=>mkS (L,2) (L,3) q++[((L,1),.cells 77 [.snil]),((L,0),.cells 25 [.int .u8 x.cells,.int .u8 x.array,.int .u8 x.mutexes,.int .u8 x.sems,.int .u8 x.budget,.int .i8 x.n,.slice (x.threads.map fun l=>.slice (l.map XH))])]) 4 ?_ ?_
  ·intro K3 hnext3 hex3 hrt3 hgo3 hpn3;rcases hA:decide (0<x.array % 4)
   ·simp -implicitDefEqProofs;exact hnext3 _ ds ⟨hg.1,by have:=hg.2;omega⟩ (Qi (by simp -implicitDefEqProofs) (by simp -implicitDefEqProofs) (by simp -implicitDefEqProofs [mkS]) (by simp -implicitDefEqProofs [mkS,Qa.keys]))
   ·have f1:FloatKind.f64.nearest (x.array % 4)=fz (x.array % 4):=Xi (by unfold QV;omega);have hdl:=JI ds;have hg2:=hg.2;have hadd:=qU (L,2) (L,3) (by simp -implicitDefEqProofs) ds (by omega) 1 [118] ⟨x.array % 4,0⟩ (by decide);simp only[WZ] at hadd;simp only[mkS,List.map_append,List.length_append,List.map_cons,List.map_nil,List.length_cons,List.length_nil,Nat.zero_add] at hadd;simp -implicitDefEqProofs [a4,f1,Qd];refine Qe.det (ADet.up hadd) ?_ (by simp -implicitDefEqProofs [Qa.keys]) (by decide) rfl (fun v hv=>?_) (fun v hv=>by cases hv)
    ·simp -implicitDefEqProofs
    cases hv;simp -implicitDefEqProofs;exact hnext3 _ (ds++[⟨1,[118],⟨x.array % 4,0⟩,[],0⟩]) (hg.add (by decide) (by decide) ⟨by simp only;omega,by simp only;omega⟩) (Qi (by simp -implicitDefEqProofs) (by simp -implicitDefEqProofs) (by simp -implicitDefEqProofs [mkS]) (by simp -implicitDefEqProofs [mkS,Qa.keys]))
  ·intro ds1 hg1;have m3:x.mutexes.tmod 3=x.mutexes % 3:=Int.tmod_eq_emod_of_nonneg hx.mutexes.1;obtain⟨n2,hn2,hn2b⟩:∃ n2:Nat,x.mutexes % 3=n2/\n2<=2:=⟨(x.mutexes % 3).toNat,by omega,by omega⟩
   simp -implicitDefEqProofs [m3,hn2,mkS];refine QB (α:=Nat × List Dc) (fun q=>q.1<=n2/\wI (k+1+q.1) q.2) (fun q=>[(1,.ptr (L,0) 0),(2,.ptr (L,1) 0),(3,.ptr (L,2) 0),(4,.func (.func 39) [] [.ptr (L,2) 0]),(48,.int .u8 n2),(49,.int .u8 q.1)])
    (fun q=>mkS (L,2) (L,3) q.2++[((L,1),.cells 77 [.snil]),((L,0),.cells 25 [.int .u8 x.cells,.int .u8 x.array,.int .u8 x.mutexes,.int .u8 x.sems,.int .u8 x.budget,.int .i8 x.n,.slice (x.threads.map fun l=>.slice (l.map XH))])]) (fun q=>n2 - q.1) (0,ds1) ⟨by simp -implicitDefEqProofs,by simpa using hg1⟩ (Qb (by simp -implicitDefEqProofs) (by simp -implicitDefEqProofs [mkS]) (by simp -implicitDefEqProofs [mkS,Qa.keys])) ?_
   rintro⟨k2,ds⟩ L2 K2 ⟨hk2,hg⟩ hL2 - hnext2 hex2 hrt2 - -;have hLL2:L<L2:=hL2;simp -implicitDefEqProofs at hk2 hg;simp -implicitDefEqProofs;refine Qv.mk (fun hb=>?_) fun hb=>?_
   ·have hkl:k2<n2:=by simp -implicitDefEqProofs at hb;omega
    obtain⟨c,hlet⟩:=Yj [109] k2 9 (by decide) ⟨by omega,by omega⟩ (by decide);replace hlet:=Ql.up (ex:=exMk) hlet;have hdl:=JI ds;have hg2:=hg.2;have hadd:=qU (L,2) (L,3) (by simp -implicitDefEqProofs) ds (by omega) 2 [109,c] zero (by decide);rw[encZ] at hadd;simp only[mkS,List.map_append,List.length_append,List.map_cons,List.map_nil,List.length_cons,List.length_nil,Nat.zero_add] at hadd;have wk:IntKind.u8.wrap ((k2:Int)+1)=((k2+1:Nat):Int):=by rw[wrap_u8 (by omega) (by omega)];omega
    simp -implicitDefEqProofs [Qd];refine Qc hlet ?_;simp -implicitDefEqProofs [mkS];refine Qe.det (ADet.up hadd) ?_ (by simp -implicitDefEqProofs [Qa.keys]) (by decide) rfl (fun v hv=>?_) (fun v hv=>by cases hv)
    ·simp -implicitDefEqProofs
    cases hv;simp -implicitDefEqProofs [wk];exact hnext2 _ (k2+1,ds++[⟨2,[109,c],zero,[],0⟩]) ⟨by omega,hg.add (by decide) (by simp -implicitDefEqProofs) ⟨by decide,by decide⟩⟩ (by simp -implicitDefEqProofs;omega) (Qb (by simp -implicitDefEqProofs) (by simp -implicitDefEqProofs [mkS]) (by simp -implicitDefEqProofs [mkS,Qa.keys]))
   ·have hkl:k2=n2:=by simp -implicitDefEqProofs at hb;omega
    subst hkl;simp -implicitDefEqProofs;refine hex2 _ _ ?_;have m3:x.sems.tmod 3=x.sems % 3:=Int.tmod_eq_emod_of_nonneg hx.sems.1;obtain⟨n3,hn3,hn3b⟩:∃ n3:Nat,x.sems % 3=n3/\n3<=2:=⟨(x.sems % 3).toNat,by omega,by omega⟩
    simp -implicitDefEqProofs [m3,hn3,mkS];refine QB (α:=Nat × List Dc) (fun q=>q.1<=n3/\wI (k+1+k2+q.1) q.2) (fun q=>[(1,.ptr (L,0) 0),(2,.ptr (L,1) 0),(3,.ptr (L,2) 0),(4,.func (.func 39) [] [.ptr (L,2) 0]),(59,.int .u8 n3),(60,.int .u8 q.1)])
     (fun q=>mkS (L,2) (L,3) q.2++[((L,1),.cells 77 [.snil]),((L,0),.cells 25 [.int .u8 x.cells,.int .u8 x.array,.int .u8 x.mutexes,.int .u8 x.sems,.int .u8 x.budget,.int .i8 x.n,.slice (x.threads.map fun l=>.slice (l.map XH))])]) (fun q=>n3 - q.1) (0,ds) ⟨by simp -implicitDefEqProofs,by simpa using hg⟩ (Qb (by simp -implicitDefEqProofs) (by simp -implicitDefEqProofs [mkS]) (by simp -implicitDefEqProofs [mkS,Qa.keys])) ?_
    rintro⟨k3,ds⟩ L3 K3 ⟨hk3,hg⟩ hL3 - hnext3 hex3 hrt3 - -;have hLL3:L<L3:=hL3;simp -implicitDefEqProofs at hk3 hg;simp -implicitDefEqProofs;refine Qv.mk (fun hb=>?_) fun hb=>?_
    ·have hkl:k3<n3:=by simp -implicitDefEqProofs at hb;omega
     obtain⟨c,hlet⟩:=Yj [115] k3 9 (by decide) ⟨by omega,by omega⟩ (by decide);replace hlet:=Ql.up (ex:=exMk) hlet;have hdl:=JI ds;have hg2:=hg.2;have hxs:=hx.sems;have e1:x.sems.tdiv 4=x.sems / 4:=Int.tdiv_eq_ediv_of_nonneg hxs.1;have e2:IntKind.u8.wrap (x.sems / 4)=x.sems / 4:=wrap_u8 (by omega) (by omega);have e3:(x.sems / 4).tmod 3=x.sems / 4 % 3:=Int.tmod_eq_emod_of_nonneg (by omega);have f1:FloatKind.f64.nearest (x.sems / 4 % 3)=fz (x.sems / 4 % 3):=Xi (by unfold QV;omega);have hadd:=qU (L,2) (L,3) (by simp -implicitDefEqProofs) ds (by omega) 3 [115,c] ⟨x.sems / 4 % 3,0⟩ (by decide);simp only[WZ] at hadd;simp only[mkS,List.map_append,List.length_append,List.map_cons,List.map_nil,List.length_cons,List.length_nil,Nat.zero_add] at hadd;have wk:IntKind.u8.wrap ((k3:Int)+1)=((k3+1:Nat):Int):=by rw[wrap_u8 (by omega) (by omega)];omega
     simp -implicitDefEqProofs [mkS];refine Zr 9 [66] (mkS (L,2) (L,3) ds) (mkS (L,2) (L,3) (ds++[⟨3,[115,c],⟨x.sems / 4 % 3,0⟩,[],0⟩])) (.tup []) rfl (by kernel_rfl) (by simp -implicitDefEqProofs [Qa.keys,mkS]) (by simp -implicitDefEqProofs [Qa.keys,mkS]) (by simp -implicitDefEqProofs [Qa.keys,mkS]) ?_;simp -implicitDefEqProofs [Qd];refine Qc hlet ?_;simp -implicitDefEqProofs [e1,e2,e3,f1,mkS];refine DetS.of rfl rfl rfl rfl rfl (ADet.up hadd) rfl ?_ ?_
     ·simp -implicitDefEqProofs
     ·simp -implicitDefEqProofs [AOut.val,ASt.putD];refine⟨?_,?_⟩
      ·intro t ht v hv id hid;simp -implicitDefEqProofs at ht;subst ht;simp -implicitDefEqProofs at hv;subst hv;simp -implicitDefEqProofs [Qq] at hid;subst hid;simp -implicitDefEqProofs [Qa.keys]
      ·exact hnext3 _ (k3+1,ds++[⟨3,[115,c],⟨x.sems / 4 % 3,0⟩,[],0⟩]) ⟨by omega,hg.add (by decide) (by simp -implicitDefEqProofs) ⟨by simp only;omega,by simp only;omega⟩⟩ (by simp -implicitDefEqProofs;omega) (Qb (by simp -implicitDefEqProofs [wk]) (by simp -implicitDefEqProofs [mkS]) (by simp -implicitDefEqProofs [mkS,Qa.keys]))
    ·have hkl:k3=n3:=by simp -implicitDefEqProofs at hb;omega
     subst hkl;simp -implicitDefEqProofs;refine hex3 _ _ ?_;have hxb:=hx.budget;have e1:x.budget.tmod 24=x.budget % 24:=Int.tmod_eq_emod_of_nonneg hxb.1;have e2:IntKind.u8.wrap (1+x.budget % 24)=1+x.budget % 24:=wrap_u8 (by omega) (by omega);have f1:FloatKind.f64.nearest (1+x.budget % 24)=fz (1+x.budget % 24):=Xi (by unfold QV;omega);have hdl:=JI ds;have hg2:=hg.2;have hadd:=qU (L,2) (L,3) (by simp -implicitDefEqProofs) ds (by omega) 4 [] ⟨1+x.budget % 24,0⟩ (by decide);simp only[WZ] at hadd;simp only[mkS,List.map_append,List.length_append,List.map_cons,List.map_nil,List.length_cons,List.length_nil,Nat.zero_add] at hadd;simp -implicitDefEqProofs [e1,e2,f1,mkS,Qd];refine Qe.det (ADet.up hadd) ?_ (by simp -implicitDefEqProofs [Qa.keys]) (by decide) rfl (fun v hv=>?_) (fun v hv=>by cases hv)
     ·simp -implicitDefEqProofs
     cases hv;simp -implicitDefEqProofs;have hgb:wI 9 (ds++[⟨4,[],⟨1+x.budget % 24,0⟩,[],0⟩]):=by
      have:=hg.add (srt:=4) (name:=[]) (z:=⟨1+x.budget % 24,0⟩) (by decide) (by simp -implicitDefEqProofs) ⟨by simp only;omega,by simp only;omega⟩;exact⟨this.1,by have:=this.2;omega⟩
     obtain⟨ds9,hds9⟩:∃ ds9,ds++[(⟨4,[],⟨1+x.budget % 24,0⟩,[],0⟩:Dc)]=ds9:=⟨_,rfl⟩
     have hmap9:ds.map wx++[wx ⟨4,[],⟨1+x.budget % 24,0⟩,[],0⟩]=ds9.map wx:=by rw[<- hds9];simp -implicitDefEqProofs
     have hlen9:ds.length+1=ds9.length:=by rw[<- hds9];simp -implicitDefEqProofs
     rw[hds9] at hgb;rw[hmap9,hlen9]
     let TP:List V->Prop:=fun tv=>tv.length<=6/\∀ v∈tv,∃ l:List SS,(∀ s∈l,s.Ok)/\l.length<=20/\(v = .slice (l.map XH)∨(v = .snil/\l=[]))
     refine Yh (α:=List V) TP (fun q=>[(1,.ptr (L,0) 0),(2,.ptr (L,1) 0),(3,.ptr (L,2) 0),(8,.slice q)]) (fun _=>mkS (L,2) (L,3) ds9++[((L,1),.cells 77 [.snil]),((L,0),.cells 25 [.int .u8 x.cells,.int .u8 x.array,.int .u8 x.mutexes,.int .u8 x.sems,.int .u8 x.budget,.int .i8 x.n,.slice (x.threads.map fun l=>.slice (l.map XH))])]) 4 ?_ ?_
     ·intro K4 hnext4 hex4 hrt4 hgo4 hpn4;by_cases h0:x.threads=[]
      ·have hb0:((x.threads.length:Int) == 0)=true:=by simp -implicitDefEqProofs [h0]
       simp -implicitDefEqProofs [hb0];exact hnext4 _ [.snil] ⟨by simp -implicitDefEqProofs,fun v hv=>⟨[],by simp -implicitDefEqProofs,by simp -implicitDefEqProofs,.inr ⟨by simpa using hv,rfl⟩⟩⟩ (Qi (by simp -implicitDefEqProofs) (by simp -implicitDefEqProofs) (by simp -implicitDefEqProofs [mkS]) (by simp -implicitDefEqProofs [mkS,Qa.keys]))
      ·have hb0:((x.threads.length:Int) == 0)=false:=by
        have:x.threads.length≠0:=fun h=>h0 (List.eq_nil_of_length_eq_zero h);simp -implicitDefEqProofs;omega
       simp -implicitDefEqProofs [hb0];refine hnext4 _ (x.threads.map fun l=>.slice (l.map XH)) ⟨by simpa using hx.len,fun v hv=>?_⟩ (Qi (by simp -implicitDefEqProofs) (by simp -implicitDefEqProofs) (by simp -implicitDefEqProofs [mkS]) (by simp -implicitDefEqProofs [mkS,Qa.keys]));obtain⟨l,hl,rfl⟩:=List.mem_map.1 hv;exact⟨l,hx.threads l hl,hx.lens l hl,.inl rfl⟩
     ·rintro tv ⟨htl,htv⟩;simp -implicitDefEqProofs [mkS];refine QB (α:=Nat × List Dc) (fun q=>q.1<=tv.length/\(∀ d∈q.2,Wmq d)/\cntD q.2<=9+21*q.1) (fun q=>[(1,.ptr (L,0) 0),(2,.ptr (L,1) 0),(3,.ptr (L,2) 0),(88,.slice tv),(89,.int .i64 tv.length),(90,.int .i64 q.1)])
       (fun q=>mkS (L,2) (L,3) q.2++[((L,1),.cells 77 [.snil]),((L,0),.cells 25 [.int .u8 x.cells,.int .u8 x.array,.int .u8 x.mutexes,.int .u8 x.sems,.int .u8 x.budget,.int .i8 x.n,.slice (x.threads.map fun l=>.slice (l.map XH))])]) (fun q=>tv.length - q.1) (0,ds9) ⟨by simp -implicitDefEqProofs,hgb.1,by simpa using hgb.2⟩ (Qb (by simp -implicitDefEqProofs) (by simp -implicitDefEqProofs [mkS]) (by simp -implicitDefEqProofs [mkS,Qa.keys])) ?_
      rintro⟨j,ds⟩ L4 K4 ⟨hj,hg1,hg2⟩ hL4 - hnext4 hex4 hrt4 - -;have hLL4:L<L4:=hL4;simp -implicitDefEqProofs at hj hg1 hg2;simp -implicitDefEqProofs;refine Qv.mk (fun hb=>?_) fun hb=>?_
      ·have hjl:j<tv.length:=by simp -implicitDefEqProofs at hb;omega
       obtain⟨v,hv⟩:=gE hjl;have hvv:tv[j]=v:=(gS hv).2;obtain⟨l,hlo,hl20,hvl⟩:=htv v (List.mem_of_getElem? hv);have e1:(0:Int)<=(j:Int):=by omega
       have e2:(j:Int)<tv.length:=by omega
       have w1:=wr2 j;have hst:=gstmts_ok x hx 3 l 100 (by decide) hlo (by omega) (by decide);have hst2:Va TC 42 [Zj x,v,.int .i64 100,.int .i64 3] (GenOut 3 l):=by
        rcases hvl with rfl|⟨rfl,rfl⟩
        ·exact hst
        ·refine vK hst fun E cvs h=>?_;cases h with
         | cons h1 h=>cases h with
           | cons h2 h=>
             cases h2;exact .cons h1 (.cons (.slice0 _ _) h)
       have hst3:=AFn.ctx (C:=TC) (C':=TCe exMk) rfl rfl hst2;simp only[Zj] at hst3;obtain⟨c,hlet⟩:=Yj [116] j 9 (by decide) ⟨by omega,by omega⟩ (by decide);replace hlet:=Ql.up (ex:=exMk) hlet;have wj:IntKind.u8.wrap (j:Int)=j:=wrap_u8 (by omega) (by omega);have hdl:=JI ds;have c1:ds.length<=9223372036854775806:=by omega
       have c2:(ds.length+1)*72<=140737488355328:=by omega
       have m4:¬ L4=L:=by omega
       have m5:¬ L=L4:=by omega
       rcases hvl with rfl|⟨rfl,rfl⟩
       all_goals
        simp -implicitDefEqProofs [e1,hvv,hjl,mkS];refine Qe.ZN hst3 (by decide) rfl ?_;rintro v ⟨out,rest,rfl,g1,g2,g3⟩;have hlo2:=UC out;simp -implicitDefEqProofs [wj];refine Qc hlet ?_;simp -implicitDefEqProofs [hz2,c1,c2,w1];refine hnext4 _ (j+1,ds++[⟨5,[116,c],zero,out,0⟩]) ⟨by omega,?_,?_⟩ (by simp -implicitDefEqProofs;omega) (Qb (by simp -implicitDefEqProofs) (by simp -implicitDefEqProofs [mkS,wx,encZ]) (by simp -implicitDefEqProofs [mkS,Qa.keys]))
        ·intro d hd;rcases List.mem_append.1 hd with hd|hd
         ·exact hg1 d hd
         ·simp -implicitDefEqProofs at hd;subst hd;have hz5:Xg zero:=⟨by decide,by decide⟩
          have hl0:=hl20;have g3':=g3
          try simp -implicitDefEqProofs at hl0 g3'
          exact⟨⟨⟨(by decide:(0:Int)<=5),(by decide:(5:Int)<=5)⟩,by simp -implicitDefEqProofs,hz5,show out.length<=1000 from by omega,fun s hs=>Uu (g1 s hs)⟩,fun h=>absurd rfl h⟩
        ·rw[QFq];have hl0:=hl20;have g3':=g3
         try simp -implicitDefEqProofs at hl0 g3'
         simp only[cntD];omega
      ·have hjl:j=tv.length:=by simp -implicitDefEqProofs at hb;omega
       subst hjl;simp -implicitDefEqProofs;refine hex4 _ _ ?_;simp -implicitDefEqProofs [mkS];refine hR _ ?_;have hdl:=JI ds;exact .ZN (v:=.agg [.vec (L,3) ds.length]) (by simp -implicitDefEqProofs [Qf,Qj]) (.agg (.cons (.vec (t:=84) (s:=5) (es:=ds.map wx) (wr:=true) (by simp -implicitDefEqProofs [Qa.get]) (yf ds hg1)) .nil)) ⟨ds,rfl,fun d hd=>(hg1 d hd).good,by omega,by omega⟩
abbrev MB:=List (Bs × Int)
def Yf (l:MB):List V:=l.map fun x=>V.str (bs x.1)
def YT (l:MB):List V:=l.map fun x=>V.int .i64 x.2
def putB:MB->Bs->Int->MB
 | [],s,b=>[(s,b)]
 | (w,x)::r,s,b=>if w=s then (w,b)::r else (w,x)::putB r s b
def Qvw (l:MB):Blk:=.map (Yf l) (YT l) l.length
theorem findB {s:Bs}:∀ (l:MB) (b:Int) (i:Nat),(Jd (.str (bs s)) (Yf l) i=some none/\putB l s b=l++[(s,b)])∨
 ∃ k,Jd (.str (bs s)) (Yf l) i=some (some (i+k))/\Yf (putB l s b)=Yf l/\YT (putB l s b)=(YT l).set k (.int .i64 b)/\(putB l s b).length=l.length
 | [],b,i=>.inl ⟨rfl,rfl⟩
 | (w,x)::r,b,i=>by
   have hf:Jd (.str (bs s)) (Yf ((w,x)::r)) i=(match JT (.str (bs s)) (.str (bs w)) with|some true=>some (some i)|some false=>Jd (.str (bs s)) (Yf r) (i+1)|none=>none):=rfl;have hk:JT (.str (bs s)) (.str (bs w))=some (s == w):=by
    show some (bs s == bs w)=_;rw[Qdz]
   rw[hf,hk,putB];by_cases h:w=s
   ·subst h;right;refine⟨0,by simp,by simp[Yf],by simp[YT],by simp⟩
   ·have hne:(s == w)=false:=by simpa using fun e=>h e.symm
    rw[hne,if_neg h];rcases findB r b (i+1) with⟨h1,h2⟩|⟨k,h1,h2,h3,h4⟩
    ·left;exact⟨h1,by rw[h2];rfl⟩
    ·right;refine⟨k+1,by simp only;rw[h1];congr 2;omega,?_,?_,by simp[h4]⟩
     ·simp only[Yf,List.map_cons] at h2 ⊢;rw[h2]
     ·simp only[YT,List.map_cons,List.set_cons_succ] at h3 ⊢;rw[h3]
theorem mapT28:mapT TC.P 28=some (9,3):=by kernel_rfl
theorem setB (l:MB) (s:Bs) (b:Int):setM TC.P 28 (Yf l) (YT l) l.length (.str (bs s)) (.int .i64 b)=some (Qvw (putB l s b)):=by
 unfold setM;rw[mapT28];simp only[Option.bind_some];rw[if_pos (key9 s)];rcases findB (s:=s) l b 0 with⟨h1,h2⟩|⟨k,h1,h2,h3,h4⟩
 ·rw[h1,h2];simp[Qvw,Yf,YT]
 ·rw[h1];simp only[Option.map_some,Nat.zero_add];unfold Qvw;rw[h2,h3,h4]
structure Tab7 where
 base:MB
 len:MB
 first:Int
def VU (t:Tab7):V:=.agg [.mapv (Yf t.base) (YT t.base),.mapv (Yf t.len) (YT t.len),.int .i64 t.first]
def za (s:Int):Int:=if s=2 then 1 else if s=3 then 2 else if s=5 then 3 else if s=4 then 4 else 0
def Ju (pass:Int) (a:Int × MB × MB) (d:Dc):Int × MB × MB:=
 if za d.sort=pass then (a.1+(if d.sort=1 then d.num.re else 1),putB a.2.1 d.name a.1,putB a.2.2 d.name (if d.sort=1 then d.num.re else 1)) else a
def Xx (ds:List Dc):Nat->Int × MB × MB
 | 0=>(0,[],[])
 | k+1=>ds.foldl (Ju k) (Xx ds k)
def VI (ds:List Dc):Tab7:=⟨(Xx ds 4).2.1,(Xx ds 4).2.2,(Xx ds 3).1⟩
theorem Qlw (p:Int) (a:Int × MB × MB) (d:Dc) (hz:Xg d.num) (B:Int) (h:-B<=a.1/\a.1<=B):-(B+1048576)<=(Ju p a d).1/\(Ju p a d).1<=B+1048576:=by
 have:=hz.1;unfold Ju;split
 ·simp only;split<;>omega
 ·omega
theorem QNq:QQ TC.P 30=some (.agg [.mnil,.mnil,.int .i64 0]):=by kernel_rfl
theorem mapT130:mapT TC.P 130=some (81,3):=by kernel_rfl
theorem foldB {p:Int}:∀ (ds:List Dc) (a:Int × MB × MB) (B:Int),(∀ d∈ds,Xg d.num)->(-B<=a.1/\a.1<=B)->-(B+1048576*ds.length)<=(ds.foldl (Ju p) a).1/\(ds.foldl (Ju p) a).1<=B+1048576*ds.length
 | [],a,B,_,h=>by simpa using h
 | d::r,a,B,hn,h=>by
   rw[List.foldl_cons];have:=foldB (p:=p) r (Ju p a d) (B+1048576) (fun x hx=>hn x (by simp[hx])) (Qlw p a d (hn d (by simp)) B h);rw[List.length_cons];omega
theorem passB (ds:List Dc) (hn:∀ d∈ds,Xg d.num):∀ k:Nat,-(1048576*(k*ds.length:Nat):Int)<=(Xx ds k).1/\(Xx ds k).1<=1048576*(k*ds.length:Nat)
 | 0=>by simp[Xx]
 | k+1=>by
   rw[Xx];have:=foldB (p:=k) ds (Xx ds k) _ hn (passB ds hn k);rw[Nat.succ_mul];omega
theorem look130 (s:Int):XS TC.P 130 [.int .i64 0,.int .i64 1,.int .i64 2,.int .i64 3,.int .i64 5,.int .i64 4] [.int .i64 0,.int .i64 0,.int .i64 1,.int .i64 2,.int .i64 3,.int .i64 4] (.int .i64 s) false=some (.int .i64 (za s)):=by
 have hs81:Qo TC.P 81 = .int .i64:=by kernel_rfl
 have hz:QQ TC.P 3=some (.int .i64 0):=by kernel_rfl
 unfold XS;rw[mapT130];unfold za;by_cases h0:s=0
 ·subst h0;simp[hs81]
 by_cases h1:s=1
 ·subst h1;simp[hs81]
 by_cases h2:s=2
 ·subst h2;simp[hs81]
 by_cases h3:s=3
 ·subst h3;simp[hs81]
 by_cases h5:s=5
 ·subst h5;simp[hs81]
 by_cases h4:s=4
 ·subst h4;simp[hs81]
 ·have e0:(s == 0)=false:=by simpa using h0
  have e1:(s == 1)=false:=by simpa using h1
  have e2:(s == 2)=false:=by simpa using h2
  have e3:(s == 3)=false:=by simpa using h3
  have e4:(s == 4)=false:=by simpa using h4
  have e5:(s == 5)=false:=by simpa using h5
  simp[hs81,hz,e0,e1,e2,e3,e4,e5,h2,h3,h4,h5]
theorem Place_ok (ds:List Dc) (hl:ds.length<=1000000) (hn:∀ d∈ds,Xg d.num):Ql TC 27 [.agg [.slice (ds.map QO)]] (VU (VI ds)):=by
 refine ADet.down (ex:=[16]) ?_;have hz:=QNq;have hmt:=mapT28;have hmt2:=mapT130;have hs81:Qo TC.P 81 = .int .i64:=by kernel_rfl
 refine ent Tryz.func27 fun L K hL hR hN hP=>?_;simp[hz,hmt];obtain⟨fs,hfs⟩:∃ fs:Nat->Int,fs=fun k=>if 4<=k then (Xx ds 3).1 else 0:=⟨_,rfl⟩
 have hfs0:fs 0=0:=by rw[hfs]<;>rfl
 refine QB (α:=Nat) (fun k=>k<=4) (fun k=>[(1,.ptr (L,0) 0),(2,.ptr (L,1) 0),(3,.ptr (L,4) 0),(4,.int .i64 (Xx ds k).1),(13,.int .i64 (k:Int))])
  (fun k=>[((L,4),.cells 30 [.map (L,2),.map (L,3),.int .i64 (fs k)]),((L,2),.map (Yf (Xx ds k).2.1) (YT (Xx ds k).2.1) (Xx ds k).2.1.length),((L,3),.map (Yf (Xx ds k).2.2) (YT (Xx ds k).2.2) (Xx ds k).2.2.length),((L,0),.cells 77 [.slice (ds.map QO)]),((L,1),.cells 30 [.mnil,.mnil,.int .i64 0])])
  (fun k=>4 - k) 0 (by decide) (Qb (by simp[Xx]) (by simp[Xx,Yf,YT,hfs0]) (by simp)) ?_
 rintro k L1 K1 hk hL1 - hnext hex hrt - -;obtain⟨hLL,m4,m5⟩:=llu L hL1;simp;refine Qv.mk (fun hb=>?_) fun hb=>?_
 ·have hk4:k<4:=by simp at hb;omega
  have w1:=wr2 k;have hpb:=passB ds hn k;have hkl:k*ds.length<=4000000:=Nat.le_trans (Nat.mul_le_mul (show k<=4 by omega) hl) (by decide);have hnx:Xx ds (k+1)=ds.foldl (Ju k) (Xx ds k):=rfl;obtain⟨a0,ha0⟩:∃ a0,Xx ds k=a0:=⟨_,rfl⟩
  have hcase:k=3∨¬ k=3:=by omega
  have hfsk:fs (k+1)=if k=3 then (Xx ds 3).1 else 0:=by rw[hfs];simp only;split<;>split<;>first|rfl|omega
  have hfsk0:fs k=0:=by rw[hfs];simp only;rw[if_neg (by omega)]
  rw[ha0] at hpb hnx ⊢;apply QZq hcase
  case ha=>
   intro h3 hG;have hb3:((k:Int) == 3)=true:=by simp[h3]
   have ha3:(Xx ds 3).1=a0.1:=by rw[<- ha0,h3]
   rw[if_pos h3,ha3] at hfsk;simp[hb3];refine Qw (Qb (τ':=[(1,.ptr (L,0) 0),(2,.ptr (L,1) 0),(3,.ptr (L,4) 0),(4,.int .i64 a0.1),(5,.int .i64 k),(13,.int .i64 k),(21,.slice (ds.map QO)),(22,.int .i64 ds.length),(23,.int .i64 0)]) (σ':=[((L,4),.cells 30 [.map (L,2),.map (L,3),.int .i64 (fs (k+1))]),((L,2),.map (Yf a0.2.1) (YT a0.2.1) a0.2.1.length),((L,3),.map (Yf a0.2.2) (YT a0.2.2) a0.2.2.length),((L,0),.cells 77 [.slice (ds.map QO)]),((L,1),.cells 30 [.mnil,.mnil,.int .i64 0])]) (by simp) (by simp[hfsk]) (by simp)) ?_;exact hG.it
  case hb=>
   intro h3 hG;have hb3:((k:Int) == 3)=false:=by simp;omega
   rw[if_neg h3] at hfsk;simp[hb3,hfsk0];refine Qw (Qb (τ':=[(1,.ptr (L,0) 0),(2,.ptr (L,1) 0),(3,.ptr (L,4) 0),(4,.int .i64 a0.1),(5,.int .i64 k),(13,.int .i64 k),(21,.slice (ds.map QO)),(22,.int .i64 ds.length),(23,.int .i64 0)]) (σ':=[((L,4),.cells 30 [.map (L,2),.map (L,3),.int .i64 (fs (k+1))]),((L,2),.map (Yf a0.2.1) (YT a0.2.1) a0.2.1.length),((L,3),.map (Yf a0.2.2) (YT a0.2.2) a0.2.2.length),((L,0),.cells 77 [.slice (ds.map QO)]),((L,1),.cells 30 [.mnil,.mnil,.int .i64 0])]) (by simp) (by simp[hfsk]) (by simp)) ?_;exact hG.it
  case hm=>
   refine QB (α:=Nat × (Int × MB × MB)) (fun q=>q.1<=ds.length/\Xx ds (k+1)=(ds.drop q.1).foldl (Ju k) q.2/\-(1048576*((k*ds.length:Nat):Int)+1048576*q.1)<=q.2.1/\q.2.1<=1048576*((k*ds.length:Nat):Int)+1048576*q.1)
    (fun q=>[(1,.ptr (L,0) 0),(2,.ptr (L,1) 0),(3,.ptr (L,4) 0),(4,.int .i64 q.2.1),(5,.int .i64 k),(13,.int .i64 k),(21,.slice (ds.map QO)),(22,.int .i64 ds.length),(23,.int .i64 (q.1:Int))])
    (fun q=>[((L,4),.cells 30 [.map (L,2),.map (L,3),.int .i64 (fs (k+1))]),((L,2),.map (Yf q.2.2.1) (YT q.2.2.1) q.2.2.1.length),((L,3),.map (Yf q.2.2.2) (YT q.2.2.2) q.2.2.2.length),((L,0),.cells 77 [.slice (ds.map QO)]),((L,1),.cells 30 [.mnil,.mnil,.int .i64 0])]) (fun q=>ds.length - q.1) (0,a0) ⟨by simp,by simpa using hnx,by simpa using hpb⟩ twk ?_
   rintro⟨j,a⟩ L2 K2 ⟨hj,hq,hb1,hb2⟩ hL2 - hnext2 hex2 hrt2 - -;have hLL2:L1<L2:=hL2;have m6:¬ L2=L:=by omega
   have m7:¬ L=L2:=by omega
   simp at hj hq hb1 hb2;simp;refine Qv.mk (fun hb=>?_) fun hb=>?_
   ·have hjl:j<ds.length:=by simp at hb;omega
    obtain⟨d,hd2⟩:=gE hjl;have e1:(0:Int)<=(j:Int):=by omega
    have e2:(j:Int)<ds.length:=by omega
    have w2:=wr2 j;have hdn:=hn d (List.mem_of_getElem? hd2);have hti:=ZQ (QD hdn.1);have hdd:ds.drop j=d::ds.drop (j+1):=by
     rw[List.drop_eq_getElem_cons hjl];have he:ds[j]=d:=(gS hd2).2;rw[he]
    rw[hdd,List.foldl_cons] at hq;have hstb:=Qlw k a d hdn (1048576*((k*ds.length:Nat):Int)+1048576*j) ⟨by omega,by omega⟩;have hlk:=look130 d.sort;have hs81:Qo TC.P 81 = .int .i64:=by kernel_rfl
    simp[e1,hd2,QO,Qu,hmt2,hs81,hlk,-XS];by_cases hg:za d.sort=k
    ·have hgb:(za d.sort != (k:Int))=false:=by simp[hg]
     by_cases h1:d.sort=1
     ·have hb1:(d.sort == 1)=true:=by simp[h1]
      simp[hgb,hb1,hti];have hs1:=setB a.2.1 d.name a.1;have hs2:=setB a.2.2 d.name (d.num.re);unfold Qvw at hs1 hs2;have hst:Ju k a d=(a.1+d.num.re,putB a.2.1 d.name a.1,putB a.2.2 d.name (d.num.re)):=by unfold Ju;rw[if_pos hg];simp[h1]
      have w3:IntKind.i64.wrap (a.1+d.num.re)=a.1+d.num.re:=wrap_i64 (by rw[hst] at hstb;simp only at hstb;omega) (by rw[hst] at hstb;simp only at hstb;omega);refine QJ [(43,46),(45,46),(50,46),(43,48),(45,48),(50,48)] (by kernel_rfl) ?_;simp[hs1,hs2,-setM,m6];refine⟨?_,?_⟩
      ·intro q hq v w hv hw id hid;simp at hq;rcases hq with rfl|rfl|rfl|rfl|rfl|rfl<;>(try simp at hv hw)<;>(try subst hv)<;>(try subst hw)<;>(try (simp[Qq] at hid ⊢))<;>(try simp[hid,m7])
      ·simp[w2,w3];exact hnext2 _ (j+1,(a.1+d.num.re,putB a.2.1 d.name a.1,putB a.2.2 d.name (d.num.re))) ⟨by omega,by rw[hq,hst],by rw[hst] at hstb;simp only at hstb ⊢;omega,by rw[hst] at hstb;simp only at hstb ⊢;omega⟩ (by simp;omega) (twk (hn:=by simp[m6]))
     ·have hb1:(d.sort == 1)=false:=by simp[h1]
      simp[hgb,hb1];have hs1:=setB a.2.1 d.name a.1;have hs2:=setB a.2.2 d.name (1);unfold Qvw at hs1 hs2;have hst:Ju k a d=(a.1+1,putB a.2.1 d.name a.1,putB a.2.2 d.name (1)):=by unfold Ju;rw[if_pos hg];simp[h1]
      have w3:IntKind.i64.wrap (a.1+1)=a.1+1:=wrap_i64 (by rw[hst] at hstb;simp only at hstb;omega) (by rw[hst] at hstb;simp only at hstb;omega);refine QJ [(43,46),(45,46),(50,46),(43,48),(45,48),(50,48)] (by kernel_rfl) ?_;simp[hs1,hs2,-setM,m6];refine⟨?_,?_⟩
      ·intro q hq v w hv hw id hid;simp at hq;rcases hq with rfl|rfl|rfl|rfl|rfl|rfl<;>(try simp at hv hw)<;>(try subst hv)<;>(try subst hw)<;>(try (simp[Qq] at hid ⊢))<;>(try simp[hid,m7])
      ·simp[w2,w3];exact hnext2 _ (j+1,(a.1+1,putB a.2.1 d.name a.1,putB a.2.2 d.name (1))) ⟨by omega,by rw[hq,hst],by rw[hst] at hstb;simp only at hstb ⊢;omega,by rw[hst] at hstb;simp only at hstb ⊢;omega⟩ (by simp;omega) (twk (hn:=by simp[m6]))
    ·have hgb:(za d.sort != (k:Int))=true:=by simpa using hg
     have hst:Ju k a d=a:=by unfold Ju;rw[if_neg hg]
     rw[hst] at hq;simp[hgb,w2];exact hnext2 _ (j+1,a) ⟨by omega,hq,by simp only;omega,by simp only;omega⟩ (by simp;omega) (twk (hn:=by simp[m6]))
   ·have hjl:j=ds.length:=by simp at hb;omega
    subst hjl;rw[List.drop_length,List.foldl_nil] at hq;simp;refine hex2 _ _ ?_;simp[w1];exact hnext _ (k+1) (by omega) (by omega) (Qb (by simp[hq]) (by simp[hq]) (by simp))
 ·have hk4:k=4:=by simp at hb;omega
  subst hk4;simp;refine hex _ _ ?_;simp;have hf4:fs 4=(Xx ds 3).1:=by rw[hfs]<;>rfl
  refine hR _ (.pure (v:=.agg [.map (L,2),.map (L,3),.int .i64 (fs 4)]) (by simp[Qf,Qj]) ?_);rw[hf4,VU,VI];exact .agg (.cons (.map (clk:=(Xx ds 4).2.1.length) (by simp[Qa.get]) (Qn _) (Qn _)) (.cons (.map (clk:=(Xx ds 4).2.2.length) (by simp[Qa.get]) (Qn _) (Qn _)) (.cons (.refl _) .nil)))
def VY (ds:List Dc):List (List St):=(ds.filter fun d=>d.sort == 5).map Dc.body
def BodP (v:V):Prop:=(∃ (l b1 b2:V) (n:Int) (p:Pg),v = .tup [l,.agg [b1,b2,.int .i64 n],Yw p,.bool false])∨
 ∃ (s:Bs) (ds:List Dc) (t:Sp.Table) (p:Pg),s.length<=16384/\YI s = .ok ds/\Ya ds = .ok t/\zI t ds=some p/\v = .tup [.slice ((VY ds).map fun b=>.slice (Qr b)),VU (VI ds),Yw p,.bool true]
theorem readS_ok {s:Bs} {p:Pg} (h:Jb s = .ok p):∃ ds t,s.length<=16384/\YI s = .ok ds/\Ya ds = .ok t/\zI t ds=some p:=by
 unfold Jb at h;split at h
 ·cases h
 ·rename_i hl;split at h
  ·cases h
  ·rename_i ds h1;split at h
   ·cases h
   ·rename_i t h2;split at h
    ·cases h
    ·rename_i p' h3;cases h;exact⟨ds,t,by omega,h1,h2,h3⟩
theorem QUw {s:Bs} {e:Er} (h:Jb s = .error e):e.2≠0:=by
 unfold Jb at h;split at h
 ·cases h;exact (by decide:(2:Int)≠0)
 ·split at h
  ·rename_i e' h1;cases h;exact zF h1
  ·split at h
   ·rename_i e' h1;cases h;exact zU h1
   ·split at h
    ·cases h;exact (by decide:(2:Int)≠0)
    ·cases h
abbrev exB:List Nat:=[5,13]
theorem Bodies_ok (x:Sm) (hx:x.Ok):Va TC 9 [Zj x] BodP:=by
 refine AFn.ctx (C:=TCe exB) (C':=TC) rfl rfl ?_;have hz:=zero77;have hz35:=jn;have hz30:=QNq;have hmk:=AFn.ctx (C:=TC) (C':=TCe exB) rfl rfl (gmake_ok x hx);refine ent Tryz.func9 fun L K hL hR hN hP=>?_;simp only[Zj] at hmk;simp[Zj,hz35,hz30];refine Qe.ZN hmk (by decide) rfl ?_;rintro v ⟨ds0,rfl,hg,hl0,hc0⟩;obtain⟨b,hb,htx⟩:=ttext ds0 hg hl0 hc0;replace htx:=Ql.up (ex:=exB) htx;simp;refine Qc htx ?_;simp;have hp5:=Ql.up (ex:=exB) (Wkz b (by omega));have hrd:=Ql.up (ex:=exB) (Read_ok b (by omega));refine Qc hp5 ?_;have failed:∀ (s':ASt) (l b1 b2:V) (n:Int) (c:V) (q:Pg),Qf (TCe exB).P s' Tryz.f9.results.toList=some [l,.agg [b1,b2,.int .i64 n],c,.bool false]->Frz s'.σ c (Yw q)->(∃ l' b1' b2',Frz s'.σ l l'/\Frz s'.σ b1 b1'/\Frz s'.σ b2 b2')->K .ret s':=fun s' l b1 b2 n c q h1 h2 ⟨l',b1',b2',f1,f2,f3⟩=>
  hR _ (.keeps s'.σ [] h1 (by simp) (by simp) (fun _ h=>h) (by simp[Qa.keys]) (by simp[Qa.keys]) (.tup (.cons f1 (.cons (.agg (.cons f2 (.cons f3 (.cons (.refl _) .nil)))) (.cons h2 (.cons (.refl _) .nil))))) ⟨_,.inl ⟨l',b1',b2',n,q,rfl⟩,rfl,rfl⟩)
 cases hrs:Jb b with
 | error e2=>
   have hnb2:(e2.2 != 0)=true:=by simpa using QUw hrs
   have hrd2:Ql (TCe exB) 22 [encS b] (VF (.error e2)):=by rw[<- hrs];exact hrd
   cases hps:YI b with
   | error e=>
     simp[parseRes,hz];refine Qc hrd2 ?_;simp[VF,wL,hz35,hnb2];refine QJ [(10,3),(10,37),(10,4),(10,38),(3,4),(3,38),(37,4),(37,38)] (by kernel_rfl) ?_;simp[hz30];refine⟨?_,?_⟩
     ·intro q hq v w hv hw id hid;simp at hq;rcases hq with rfl|rfl|rfl|rfl|rfl|rfl|rfl|rfl<;>(try simp at hv hw)<;>(try subst hv)<;>(try subst hw)<;>(try (simp[Qq] at hid ⊢))<;>(try simp[hid])
     ·exact failed _ .snil .mnil .mnil 0 (.agg [.slice [],.slice [],.int .i64 0,.slice [],.int .i64 0]) ⟨[],[],0,[],0⟩ (by simp[Qf,Qj]) (.refl _) ⟨.slice [],.mnil,.mnil,.snil,.refl _,.refl _⟩
   | ok ds=>
     simp[parseRes,hz];refine Qc hrd2 ?_;simp[VF,wL,hz35,hnb2];refine QJ [(10,3),(10,37),(10,4),(10,38),(3,4),(3,38),(37,4),(37,38)] (by kernel_rfl) ?_;simp[hz30];refine⟨?_,?_⟩
     ·intro q hq v w hv hw id hid;simp at hq;rcases hq with rfl|rfl|rfl|rfl|rfl|rfl|rfl|rfl<;>(try simp at hv hw)<;>(try subst hv)<;>(try subst hw)<;>(try (simp[Qq] at hid ⊢))<;>(try simp[hid])
     ·exact failed _ .snil .mnil .mnil 0 (.agg [.slice [],.slice [],.int .i64 0,.slice [],.int .i64 0]) ⟨[],[],0,[],0⟩ (by simp[Qf,Qj]) (.refl _) ⟨.slice [],.mnil,.mnil,.snil,.refl _,.refl _⟩
 | ok p=>
   obtain⟨ds,t,hbl,hps,hck,hmk2⟩:=readS_ok hrs;have hrd2:Ql (TCe exB) 22 [encS b] (VF (.ok p)):=by rw[<- hrs];exact hrd
   rw[hps];have hdo:=wS (by omega) hps;simp[parseRes,hz];refine Qc hrd2 ?_;simp[VF,Yw,hz35];refine Qw (WM (t:=13) (el:=51) (sz:=1) (by simp) (by decide)) ?_;refine QB (α:=Nat × List (List St)) (fun q=>q.1<=ds.length/\q.2=VY (ds.take q.1)) (fun q=>[(3,.ptr (L,1) 0),(4,.ptr (L,2) 0),(7,.ptr (L,3) 0),(10,.ptr (L,4) 0),(13,.vec (L,5) q.2.length),(40,.slice (ds.map QO)),(41,.int .i64 ds.length),(42,.int .i64 (q.1:Int))])
    (fun q=>[((L,5),.vec 51 1 (q.2.map fun b=>.slice (Qr b)) q.2.length true),((L,3),.cells 77 [.slice (ds.map QO)]),((L,4),.cells 35 [.slice (p.threads.map XA),.slice (p.cells.map Qu),.int .i64 p.mutexes,.slice (p.sems.map fun n=>.int .i64 n),.int .i64 p.budget]),((L,1),.cells 30 [.mnil,.mnil,.int .i64 0]),((L,2),.cells 35 [.snil,.snil,.int .i64 0,.snil,.int .i64 0])]) (fun q=>ds.length - q.1) (0,[]) ⟨by simp,by simp[VY]⟩ twk ?_
   rintro⟨k,out⟩ L1 K1 ⟨hk,hout⟩ hL1 - hnext hex hrt - -;obtain⟨hLL,m4,m5⟩:=llu L hL1;have hk:k<=ds.length:=hk;have hout:out=VY (ds.take k):=hout;have hdl:=hdo.len;have hol:out.length<=k:=by
    rw[hout];unfold VY;rw[List.length_map];have:=List.length_filter_le (fun d:Dc=>d.sort == 5) (ds.take k);rw[List.length_take] at this;omega
   simp;refine Qv.mk (fun hb=>?_) fun hb=>?_
   ·have hkl:k<ds.length:=by simp at hb;omega
    have w1:=wr2 k;obtain⟨e1,e2⟩:=il hkl;obtain⟨d,hd⟩:=gE hkl;have htk:VY (ds.take (k+1))=out++(if d.sort == 5 then [d.body] else []):=by
     rw[hout];unfold VY;rw[List.take_succ,hd,List.filter_append,List.map_append];congr 1;cases hs:d.sort == 5<;>simp[hs]
    simp[e1,hd,QO,Qu];rcases h5:(d.sort == 5)
    ·rw[h5] at htk;simp at htk;simp[w1];exact hnext _ (k+1,out) ⟨by omega,htk.symm⟩ (by simp;omega) (twk (hn:=by simp[m4]))
    ·rw[h5] at htk;simp at htk;have c1:out.length<=9223372036854775806:=by omega
     have c2:(out.length+1)*24<=140737488355328:=by omega
     simp[w1,c1,c2,m4];exact hnext _ (k+1,out++[d.body]) ⟨by omega,htk.symm⟩ (by simp;omega) (twk (hn:=by simp[m4]))
   ·have hkl:k=ds.length:=by simp at hb;omega
    subst hkl;rw[List.take_length] at hout;simp;refine hex _ _ ?_;simp;refine Qw (Vg (τ':=[(3,.ptr (L,1) 0),(4,.ptr (L,2) 0),(7,.ptr (L,3) 0),(10,.ptr (L,4) 0),(13,.slice (out.map fun b=>.slice (Qr b)))]) (σ':=[((L,3),.cells 77 [.slice (ds.map QO)]),((L,4),.cells 35 [.slice (p.threads.map XA),.slice (p.cells.map Qu),.int .i64 p.mutexes,.slice (p.sems.map fun n=>.int .i64 n),.int .i64 p.budget]),((L,1),.cells 30 [.mnil,.mnil,.int .i64 0]),((L,2),.cells 35 [.snil,.snil,.int .i64 0,.snil,.int .i64 0])])
     [((L,5),.vec 51 1 (out.map fun b=>.slice (Qr b)) out.length true)] [((L,3),.cells 77 [.slice (ds.map QO)]),((L,4),.cells 35 [.slice (p.threads.map XA),.slice (p.cells.map Qu),.int .i64 p.mutexes,.slice (p.sems.map fun n=>.int .i64 n),.int .i64 p.budget]),((L,1),.cells 30 [.mnil,.mnil,.int .i64 0]),((L,2),.cells 35 [.snil,.snil,.int .i64 0,.snil,.int .i64 0])] ?_ ?_ ?_ ?_ ?_ ?_) ?_
    ·simp;exact⟨.refl _,.refl _,.refl _,.refl _,.vec (t:=51) (s:=1) (es:=out.map fun b=>.slice (Qr b)) (wr:=true) (by simp[Qa.get]) (Qn _)⟩
    ·simp
    ·simp
    ·simp[Qa.keys]
    ·simp[Qa.keys]
    ·exact .refl _
    have hpl:=Ql.up (ex:=exB) (Place_ok ds hdl hdo.num);refine QJ [(7,3),(7,57),(10,3),(10,57),(61,3),(61,57),(59,3),(59,57),(62,3),(62,57),(7,4),(7,58),(10,4),(10,58),(61,4),(61,58),(59,4),(59,58),(62,4),(62,58),(3,4),(3,58),(57,4),(57,58)] (by kernel_rfl) ?_;simp;refine Qc hpl ?_;simp[VU];refine⟨?_,?_⟩
    ·intro q hq v w hv hw id hid;simp at hq;rcases hq with rfl|rfl|rfl|rfl|rfl|rfl|rfl|rfl|rfl|rfl|rfl|rfl|rfl|rfl|rfl|rfl|rfl|rfl|rfl|rfl|rfl|rfl|rfl|rfl<;>(try simp at hv hw)<;>(try subst hv)<;>(try subst hw)<;>(try (simp[Qq] at hid ⊢))<;>(try simp[hid])
    ·rcases hbb:((out.length:Int) == p.threads.length)
     ·exact failed _ (.slice (out.map fun b=>.slice (Qr b))) (.mapv (Yf (VI ds).base) (YT (VI ds).base)) (.mapv (Yf (VI ds).len) (YT (VI ds).len)) (VI ds).first (Yw p) p (by simp[Qf,Qj,Yw]) (.refl _) ⟨_,_,_,.refl _,.refl _,.refl _⟩
     ·refine hR _ (.keeps _ [] (vs:=[.slice (out.map fun b=>.slice (Qr b)),VU (VI ds),Yw p,.bool true]) (by simp[Qf,Qj,Yw,VU]) (by simp) (by simp) (fun _ h=>h) (by simp[Qa.keys]) (by simp[Qa.keys]) (.refl _) ⟨_,.inr ⟨b,ds,t,p,hbl,hps,hck,hmk2,?_⟩,rfl,rfl⟩);rw[hout]
end Go.Awp.R1
