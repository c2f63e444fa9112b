/- Small programs: a statement of small numbers. -/
import Derived.Test.YtnielafbkgpgjaaGreatDoorX35
set_option linter.all false
set_option maxRecDepth 100000
set_option maxHeartbeats 8000000
namespace Go.Awp.R1
open Go Go.Awp Go.Proofs Go.Awp.Sp
structure SS where
 do_:Int
 a:Int
 b:Int
 c:Int
 n:Int
structure SS.Ok (s:SS):Prop where
 do_:0<=s.do_/\s.do_<256
 a:0<=s.a/\s.a<256
 b:0<=s.b/\s.b<256
 c:0<=s.c/\s.c<256
 n:-128<=s.n/\s.n<128
def XH (s:SS):V:=.agg [.int .u8 s.do_,.int .u8 s.a,.int .u8 s.b,.int .u8 s.c,.int .i8 s.n]
structure Sm where
 cells:Int
 array:Int
 mutexes:Int
 sems:Int
 budget:Int
 n:Int
 threads:List (List SS)
structure Sm.Ok (x:Sm):Prop where
 cells:0<=x.cells/\x.cells<256
 array:0<=x.array/\x.array<256
 mutexes:0<=x.mutexes/\x.mutexes<256
 sems:0<=x.sems/\x.sems<256
 budget:0<=x.budget/\x.budget<256
 n:-128<=x.n/\x.n<128
 threads:∀ l∈x.threads,∀ s∈l,s.Ok
 len:x.threads.length<=6
 lens:∀ l∈x.threads,l.length<=20
def Zj (x:Sm):V:=.agg [.int .u8 x.cells,.int .u8 x.array,.int .u8 x.mutexes,.int .u8 x.sems,.int .u8 x.budget,.int .i8 x.n,.slice (x.threads.map fun l=>.slice (l.map XH))]
structure GoodS (y:St):Prop where
 ex:∃ k reg name ix xs,y = .mk k reg name ix xs [] [] 0/\(0<=k/\k<=16)/\reg.length<=1/\name.length<=2/\xs.length<=3/\(∀ e∈xs,Zm 3 e)/\(ix=true->xs≠[])
def UT:List Int:=[2,1,2,1,3,4,5,6,7,8,9,10,11,12,13,14,15,16,0]
theorem Wcq (i:Nat) (h:i<19):∃ k,UT[i]? = some k/\0<=k/\k<=16:=by
 have:∀ k∈UT,0<=k/\k<=16:=by decide
 have hl:i<UT.length:=h;exact⟨UT[i],List.getElem?_eq_getElem hl,this _ (List.getElem_mem hl)⟩
theorem zero56:QQ TC.P 56=some (.agg [.int .i64 0,.str (bs []),.str (bs []),.bool false,.snil,.snil,.snil,.int .i64 0]):=by kernel_rfl
abbrev exG:List Nat:=[]
def yB (k:Int) (reg name:Bs) (ix:Bool) (v:V):Blk:=.cells 56 [.int .i64 k,.str (bs reg),.str (bs name),.bool ix,v,.snil,.snil,.int .i64 0]
theorem gstmt_ok (x:Sm) (hx:x.Ok) (s:SS) (hs:s.Ok):Va TC 71 [Zj x,XH s] (fun v=>∃ y ok,GoodS y/\v = .tup [We y,.bool ok]):=by
 refine AFn.ctx (C:=TCe exG) (C':=TC) rfl rfl ?_;have hz:=zero56;have hd:=hs.do_;have e1:s.do_.tmod 19=s.do_ % 19:=Int.tmod_eq_emod_of_nonneg hd.1;obtain⟨k,hk,hk2⟩:=Wcq (s.do_ % 19).toNat (by omega);have i1:0<=s.do_ % 19:=by omega
 have i2:s.do_ % 19<19:=by omega
 have i3:(s.do_ % 19).toNat<19:=by omega
 have hkk:UT[(s.do_ % 19).toNat]=k:=(gS hk).2;refine ent Tryz.func71 fun L K hL hR hN hP=>?_;simp -implicitDefEqProofs [Zj,XH,hz];refine Wg (by decide) ?_;have hq:(UT.map (V.int .i64))[(s.do_ % 19).toNat]? = some (.int .i64 k):=by rw[List.getElem?_map,hk]<;>rfl
 have hxv:([V.int .i64 2,V.int .i64 1,V.int .i64 2,V.int .i64 1,V.int .i64 3,V.int .i64 4,V.int .i64 5,V.int .i64 6,V.int .i64 7,V.int .i64 8,V.int .i64 9,V.int .i64 10,V.int .i64 11,V.int .i64 12,V.int .i64 13,V.int .i64 14,V.int .i64 15,V.int .i64 16,V.int .i64 0]:List V)[(s.do_ % 19).toNat] = .int .i64 k:=(gS hq).2;simp -implicitDefEqProofs [e1,i1,i3,hz,hxv];have fin:∀ (s':ASt) (vx:V) (k:Int) (reg name:Bs) (ix:Bool) (xs:List Ex) (ok:Bool),Qf (TCe exG).P s' Tryz.f71.results.toList=some [.agg [.int .i64 k,.str (bs reg),.str (bs name),.bool ix,vx,.snil,.snil,.int .i64 0],.bool ok]->
  Frz s'.σ vx (.slice (Qm xs))->(0<=k/\k<=16)->reg.length<=1->name.length<=2->xs.length<=3->(∀ e∈xs,Zm 3 e)->(ix=true->xs≠[])->K .ret s':=fun s' vx k reg name ix xs ok h1 h2 h3 h4 h5 h6 h7 h8=>
  hR _ (.keeps s'.σ [] h1 (by simp -implicitDefEqProofs) (by simp -implicitDefEqProofs) (fun _ h=>h) (by simp -implicitDefEqProofs [Qa.keys]) (by simp -implicitDefEqProofs [Qa.keys]) (.tup (.cons (.agg (.cons (.refl _) (.cons (.refl _) (.cons (.refl _) (.cons (.refl _) (.cons h2 (.cons .snil (.cons .snil (.cons (.refl _) .nil))))))))) (.cons (.refl _) .nil))) ⟨_,⟨_,ok,⟨k,reg,name,ix,xs,rfl,h3,h4,h5,h6,h7,h8⟩,rfl⟩,rfl,rfl⟩)
 obtain⟨⟨op1,z1,w1,p1⟩,ge1,he1⟩:=yv s.a s.n hs.a hs.n;obtain⟨⟨op2,z2,w2,p2⟩,ge2,he2⟩:=yv (s.b / 4 % 7) (s.b / 32) (by have:=hs.b;omega) (by have:=hs.b;omega);obtain⟨⟨op3,z3,w3,p3⟩,ge3',he3⟩:=Qtq (IntKind.i8.wrap (s.n+1)) (by simp -implicitDefEqProofs [IntKind.wrap,IntKind.bits,IntKind.signed];omega) 0;have ge3:=ge3'.mono (m:=3) (by decide);rw[Qh] at he1 he2 he3;replace he1:=Ql.up (ex:=exG) he1;replace he2:=Ql.up (ex:=exG) he2;replace he3:=Ql.up (ex:=exG) he3;obtain⟨r,hrl,hr0⟩:=uE s.c hs.c;replace hr0:=Ql.up (ex:=exG) hr0;have hk17:k=0∨k=1∨k=2∨k=3∨k=4∨k=5∨k=6∨k=7∨k=8∨k=9∨k=10∨k=11∨k=12∨k=13∨k=14∨k=15∨k=16:=by omega
 clear hk hq hxv hkk;have b4:s.b.tmod 4=s.b % 4:=Int.tmod_eq_emod_of_nonneg hs.b.1;have a4:x.array.tmod 4=x.array % 4:=Int.tmod_eq_emod_of_nonneg hx.array.1;have b5:s.b.tdiv 4=s.b / 4:=Int.tdiv_eq_ediv_of_nonneg hs.b.1;have b6:(s.b / 4).tmod 7=s.b / 4 % 7:=Int.tmod_eq_emod_of_nonneg (by have:=hs.b;omega);have b7:s.b.tdiv 32=s.b / 32:=Int.tdiv_eq_ediv_of_nonneg hs.b.1;have b8:IntKind.u8.wrap (s.b / 4)=s.b / 4:=wrap_u8 (by have:=hs.b;omega) (by have:=hs.b;omega);have b9:IntKind.u8.wrap (s.b / 32)=s.b / 32:=wrap_u8 (by have:=hs.b;omega) (by have:=hs.b;omega);have b10:IntKind.i8.wrap (s.b / 32)=s.b / 32:=by have:=hs.b;simp -implicitDefEqProofs [IntKind.wrap,IntKind.bits,IntKind.signed];omega
 have m3:x.mutexes.tmod 3=x.mutexes % 3:=Int.tmod_eq_emod_of_nonneg hx.mutexes.1;have s3:x.sems.tmod 3=x.sems % 3:=Int.tmod_eq_emod_of_nonneg hx.sems.1;have hmany:=Ql.up (ex:=exG) (many_ok x.cells hx.cells);obtain⟨cx,hcx⟩:=Yj [120] s.b (1+x.cells % 3) (by decide) hs.b ⟨by have:=hx.cells;omega,by have:=hx.cells;omega⟩;obtain⟨mm,hmm⟩:∃ mm:Int,(if x.mutexes % 3<1 then 1 else x.mutexes % 3)=mm:=⟨_,rfl⟩
 obtain⟨cm,hcm⟩:=Yj [109] s.b mm (by decide) hs.b (by rw[<- hmm];split<;>omega);obtain⟨sm,hsm⟩:∃ sm:Int,(if x.sems % 3<1 then 1 else x.sems % 3)=sm:=⟨_,rfl⟩
 obtain⟨cs,hcs⟩:=Yj [115] s.b sm (by decide) hs.b (by rw[<- hsm];split<;>omega);obtain⟨tm,htm⟩:∃ tm:Int,(if (x.threads.length:Int)<1 then 1 else (x.threads.length:Int))=tm:=⟨_,rfl⟩
 have htl:=hx.len;have htw:IntKind.u8.wrap tm=tm:=wrap_u8 (by rw[<- htm];split<;>omega) (by rw[<- htm];split<;>omega);obtain⟨ct,hct⟩:=Yj [116] s.b tm (by decide) hs.b (by rw[<- htm];split<;>omega);replace hcx:=Ql.up (ex:=exG) hcx;replace hcm:=Ql.up (ex:=exG) hcm;replace hcs:=Ql.up (ex:=exG) hcs;replace hct:=Ql.up (ex:=exG) hct;simp only[List.cons_append,List.nil_append] at hcx hcm hcs hct;rcases hk17 with rfl|rfl|rfl|rfl|rfl|rfl|rfl|rfl|rfl|rfl|rfl|rfl|rfl|rfl|rfl|rfl|rfl
 ·
   simp -implicitDefEqProofs [Qd];refine Qc hr0 ?_;simp -implicitDefEqProofs;refine Qc he1 ?_;simp -implicitDefEqProofs [Qd];exact fin _ (.vec (L,4) 1) 0 r [] false ([.mk op1 z1 w1 p1]:List Ex) true (by simp -implicitDefEqProofs [Qf,Qj]) (.vec (t:=192) (s:=4) (es:=Qm ([.mk op1 z1 w1 p1]:List Ex)) (wr:=true) (by simp -implicitDefEqProofs [Qa.get,Qm,Qh]) (Qn _)) (by decide) (by omega) (by simp -implicitDefEqProofs) (by simp -implicitDefEqProofs) (by simp -implicitDefEqProofs;exact ge1) (by simp -implicitDefEqProofs)
 ·
   rcases hB:(s.b % 4 == 3)
   ·simp -implicitDefEqProofs [Qd,b4,hB];refine Qc hmany ?_;simp -implicitDefEqProofs;refine Qc hcx ?_;simp -implicitDefEqProofs;refine Qc hr0 ?_;simp -implicitDefEqProofs;exact fin _ .snil 1 r [120,cx] false ([]:List Ex) true (by simp -implicitDefEqProofs [Qf,Qj]) .snil (by decide) (by omega) (by simp -implicitDefEqProofs) (by simp -implicitDefEqProofs) (by simp -implicitDefEqProofs) (by simp -implicitDefEqProofs)
   ·rcases hA:decide (0<x.array % 4)
    ·simp -implicitDefEqProofs [Qd,b4,a4,hB,hA];refine Qc hmany ?_;simp -implicitDefEqProofs;refine Qc hcx ?_;simp -implicitDefEqProofs;refine Qc hr0 ?_;simp -implicitDefEqProofs;exact fin _ .snil 1 r [120,cx] false ([]:List Ex) true (by simp -implicitDefEqProofs [Qf,Qj]) .snil (by decide) (by omega) (by simp -implicitDefEqProofs) (by simp -implicitDefEqProofs) (by simp -implicitDefEqProofs) (by simp -implicitDefEqProofs)
    ·simp -implicitDefEqProofs [Qd,b4,a4,b5,b6,b7,b8,b9,b10,hB,hA];refine Qc he2 ?_;simp -implicitDefEqProofs [Qd];refine Qc hr0 ?_;simp -implicitDefEqProofs;exact fin _ (.vec (L,4) 1) 1 r [118] true ([.mk op2 z2 w2 p2]:List Ex) true (by simp -implicitDefEqProofs [Qf,Qj]) (.vec (t:=192) (s:=4) (es:=Qm ([.mk op2 z2 w2 p2]:List Ex)) (wr:=true) (by simp -implicitDefEqProofs [Qa.get,Qm,Qh]) (Qn _)) (by decide) (by omega) (by simp -implicitDefEqProofs) (by simp -implicitDefEqProofs) (by simp -implicitDefEqProofs;exact ge2) (by simp -implicitDefEqProofs)
 ·
   rcases hB:(s.b % 4 == 3)
   ·simp -implicitDefEqProofs [Qd,b4,hB];refine Qc hmany ?_;simp -implicitDefEqProofs;refine Qc hcx ?_;simp -implicitDefEqProofs;refine Qc he1 ?_;simp -implicitDefEqProofs [Qd];exact fin _ (.vec (L,4) 1) 2 [] [120,cx] false ([.mk op1 z1 w1 p1]:List Ex) true (by simp -implicitDefEqProofs [Qf,Qj]) (.vec (t:=192) (s:=4) (es:=Qm ([.mk op1 z1 w1 p1]:List Ex)) (wr:=true) (by simp -implicitDefEqProofs [Qa.get,Qm,Qh]) (Qn _)) (by decide) (by decide) (by simp -implicitDefEqProofs) (by simp -implicitDefEqProofs) (by simp -implicitDefEqProofs;exact ge1) (by simp -implicitDefEqProofs)
   ·rcases hA:decide (0<x.array % 4)
    ·simp -implicitDefEqProofs [Qd,b4,a4,hB,hA];refine Qc hmany ?_;simp -implicitDefEqProofs;refine Qc hcx ?_;simp -implicitDefEqProofs;refine Qc he1 ?_;simp -implicitDefEqProofs [Qd];exact fin _ (.vec (L,4) 1) 2 [] [120,cx] false ([.mk op1 z1 w1 p1]:List Ex) true (by simp -implicitDefEqProofs [Qf,Qj]) (.vec (t:=192) (s:=4) (es:=Qm ([.mk op1 z1 w1 p1]:List Ex)) (wr:=true) (by simp -implicitDefEqProofs [Qa.get,Qm,Qh]) (Qn _)) (by decide) (by decide) (by simp -implicitDefEqProofs) (by simp -implicitDefEqProofs) (by simp -implicitDefEqProofs;exact ge1) (by simp -implicitDefEqProofs)
    ·simp -implicitDefEqProofs [Qd,b4,a4,b5,b6,b7,b8,b9,b10,hB,hA];refine Qc he2 ?_;simp -implicitDefEqProofs [Qd];refine Qc he1 ?_;simp -implicitDefEqProofs [Qd];exact fin _ (.vec (L,4) 2) 2 [] [118] true ([.mk op2 z2 w2 p2,.mk op1 z1 w1 p1]:List Ex) true (by simp -implicitDefEqProofs [Qf,Qj]) (.vec (t:=192) (s:=4) (es:=Qm ([.mk op2 z2 w2 p2,.mk op1 z1 w1 p1]:List Ex)) (wr:=true) (by simp -implicitDefEqProofs [Qa.get,Qm,Qh]) (Qn _)) (by decide) (by decide) (by simp -implicitDefEqProofs) (by simp -implicitDefEqProofs) (by simp -implicitDefEqProofs;exact⟨ge2,ge1⟩) (by simp -implicitDefEqProofs)
 ·
   rcases hB:(s.b % 4 == 3)
   ·simp -implicitDefEqProofs [Qd,b4,hB];refine Qc hmany ?_;simp -implicitDefEqProofs;refine Qc hcx ?_;simp -implicitDefEqProofs;refine Qc hr0 ?_;simp -implicitDefEqProofs;refine Qc he1 ?_;simp -implicitDefEqProofs [Qd];exact fin _ (.vec (L,4) 1) 3 r [120,cx] false ([.mk op1 z1 w1 p1]:List Ex) true (by simp -implicitDefEqProofs [Qf,Qj]) (.vec (t:=192) (s:=4) (es:=Qm ([.mk op1 z1 w1 p1]:List Ex)) (wr:=true) (by simp -implicitDefEqProofs [Qa.get,Qm,Qh]) (Qn _)) (by decide) (by omega) (by simp -implicitDefEqProofs) (by simp -implicitDefEqProofs) (by simp -implicitDefEqProofs;exact ge1) (by simp -implicitDefEqProofs)
   ·rcases hA:decide (0<x.array % 4)
    ·simp -implicitDefEqProofs [Qd,b4,a4,hB,hA];refine Qc hmany ?_;simp -implicitDefEqProofs;refine Qc hcx ?_;simp -implicitDefEqProofs;refine Qc hr0 ?_;simp -implicitDefEqProofs;refine Qc he1 ?_;simp -implicitDefEqProofs [Qd];exact fin _ (.vec (L,4) 1) 3 r [120,cx] false ([.mk op1 z1 w1 p1]:List Ex) true (by simp -implicitDefEqProofs [Qf,Qj]) (.vec (t:=192) (s:=4) (es:=Qm ([.mk op1 z1 w1 p1]:List Ex)) (wr:=true) (by simp -implicitDefEqProofs [Qa.get,Qm,Qh]) (Qn _)) (by decide) (by omega) (by simp -implicitDefEqProofs) (by simp -implicitDefEqProofs) (by simp -implicitDefEqProofs;exact ge1) (by simp -implicitDefEqProofs)
    ·simp -implicitDefEqProofs [Qd,b4,a4,b5,b6,b7,b8,b9,b10,hB,hA];refine Qc he2 ?_;simp -implicitDefEqProofs [Qd];refine Qc hr0 ?_;simp -implicitDefEqProofs;refine Qc he1 ?_;simp -implicitDefEqProofs [Qd];exact fin _ (.vec (L,4) 2) 3 r [118] true ([.mk op2 z2 w2 p2,.mk op1 z1 w1 p1]:List Ex) true (by simp -implicitDefEqProofs [Qf,Qj]) (.vec (t:=192) (s:=4) (es:=Qm ([.mk op2 z2 w2 p2,.mk op1 z1 w1 p1]:List Ex)) (wr:=true) (by simp -implicitDefEqProofs [Qa.get,Qm,Qh]) (Qn _)) (by decide) (by omega) (by simp -implicitDefEqProofs) (by simp -implicitDefEqProofs) (by simp -implicitDefEqProofs;exact⟨ge2,ge1⟩) (by simp -implicitDefEqProofs)
 ·
   rcases hB:(s.b % 4 == 3)
   ·simp -implicitDefEqProofs [Qd,b4,hB];refine Qc hmany ?_;simp -implicitDefEqProofs;refine Qc hcx ?_;simp -implicitDefEqProofs;refine Qc hr0 ?_;simp -implicitDefEqProofs;refine Qc he1 ?_;simp -implicitDefEqProofs [Qd];exact fin _ (.vec (L,4) 1) 4 r [120,cx] false ([.mk op1 z1 w1 p1]:List Ex) true (by simp -implicitDefEqProofs [Qf,Qj]) (.vec (t:=192) (s:=4) (es:=Qm ([.mk op1 z1 w1 p1]:List Ex)) (wr:=true) (by simp -implicitDefEqProofs [Qa.get,Qm,Qh]) (Qn _)) (by decide) (by omega) (by simp -implicitDefEqProofs) (by simp -implicitDefEqProofs) (by simp -implicitDefEqProofs;exact ge1) (by simp -implicitDefEqProofs)
   ·rcases hA:decide (0<x.array % 4)
    ·simp -implicitDefEqProofs [Qd,b4,a4,hB,hA];refine Qc hmany ?_;simp -implicitDefEqProofs;refine Qc hcx ?_;simp -implicitDefEqProofs;refine Qc hr0 ?_;simp -implicitDefEqProofs;refine Qc he1 ?_;simp -implicitDefEqProofs [Qd];exact fin _ (.vec (L,4) 1) 4 r [120,cx] false ([.mk op1 z1 w1 p1]:List Ex) true (by simp -implicitDefEqProofs [Qf,Qj]) (.vec (t:=192) (s:=4) (es:=Qm ([.mk op1 z1 w1 p1]:List Ex)) (wr:=true) (by simp -implicitDefEqProofs [Qa.get,Qm,Qh]) (Qn _)) (by decide) (by omega) (by simp -implicitDefEqProofs) (by simp -implicitDefEqProofs) (by simp -implicitDefEqProofs;exact ge1) (by simp -implicitDefEqProofs)
    ·simp -implicitDefEqProofs [Qd,b4,a4,b5,b6,b7,b8,b9,b10,hB,hA];refine Qc he2 ?_;simp -implicitDefEqProofs [Qd];refine Qc hr0 ?_;simp -implicitDefEqProofs;refine Qc he1 ?_;simp -implicitDefEqProofs [Qd];exact fin _ (.vec (L,4) 2) 4 r [118] true ([.mk op2 z2 w2 p2,.mk op1 z1 w1 p1]:List Ex) true (by simp -implicitDefEqProofs [Qf,Qj]) (.vec (t:=192) (s:=4) (es:=Qm ([.mk op2 z2 w2 p2,.mk op1 z1 w1 p1]:List Ex)) (wr:=true) (by simp -implicitDefEqProofs [Qa.get,Qm,Qh]) (Qn _)) (by decide) (by omega) (by simp -implicitDefEqProofs) (by simp -implicitDefEqProofs) (by simp -implicitDefEqProofs;exact⟨ge2,ge1⟩) (by simp -implicitDefEqProofs)
 ·
   rcases hB:(s.b % 4 == 3)
   ·simp -implicitDefEqProofs [Qd,b4,hB];refine Qc hmany ?_;simp -implicitDefEqProofs;refine Qc hcx ?_;simp -implicitDefEqProofs;refine Qc hr0 ?_;simp -implicitDefEqProofs;refine Qc he1 ?_;simp -implicitDefEqProofs;refine Qc he3 ?_;simp -implicitDefEqProofs [Qd];exact fin _ (.vec (L,4) 1) 5 r [120,cx] false ([.mk op1 z1 w1 p1,.mk op3 z3 w3 p3]:List Ex) true (by simp -implicitDefEqProofs [Qf,Qj]) (.vec (t:=192) (s:=4) (es:=Qm ([.mk op1 z1 w1 p1,.mk op3 z3 w3 p3]:List Ex)) (wr:=true) (by simp -implicitDefEqProofs [Qa.get,Qm,Qh]) (Qn _)) (by decide) (by omega) (by simp -implicitDefEqProofs) (by simp -implicitDefEqProofs) (by simp -implicitDefEqProofs;exact⟨ge1,ge3⟩) (by simp -implicitDefEqProofs)
   ·rcases hA:decide (0<x.array % 4)
    ·simp -implicitDefEqProofs [Qd,b4,a4,hB,hA];refine Qc hmany ?_;simp -implicitDefEqProofs;refine Qc hcx ?_;simp -implicitDefEqProofs;refine Qc hr0 ?_;simp -implicitDefEqProofs;refine Qc he1 ?_;simp -implicitDefEqProofs;refine Qc he3 ?_;simp -implicitDefEqProofs [Qd];exact fin _ (.vec (L,4) 1) 5 r [120,cx] false ([.mk op1 z1 w1 p1,.mk op3 z3 w3 p3]:List Ex) true (by simp -implicitDefEqProofs [Qf,Qj]) (.vec (t:=192) (s:=4) (es:=Qm ([.mk op1 z1 w1 p1,.mk op3 z3 w3 p3]:List Ex)) (wr:=true) (by simp -implicitDefEqProofs [Qa.get,Qm,Qh]) (Qn _)) (by decide) (by omega) (by simp -implicitDefEqProofs) (by simp -implicitDefEqProofs) (by simp -implicitDefEqProofs;exact⟨ge1,ge3⟩) (by simp -implicitDefEqProofs)
    ·simp -implicitDefEqProofs [Qd,b4,a4,b5,b6,b7,b8,b9,b10,hB,hA];refine Qc he2 ?_;simp -implicitDefEqProofs [Qd];refine Qc hr0 ?_;simp -implicitDefEqProofs;refine Qc he1 ?_;simp -implicitDefEqProofs;refine Qc he3 ?_;simp -implicitDefEqProofs [Qd];exact fin _ (.vec (L,4) 2) 5 r [118] true ([.mk op2 z2 w2 p2,.mk op1 z1 w1 p1,.mk op3 z3 w3 p3]:List Ex) true (by simp -implicitDefEqProofs [Qf,Qj]) (.vec (t:=192) (s:=4) (es:=Qm ([.mk op2 z2 w2 p2,.mk op1 z1 w1 p1,.mk op3 z3 w3 p3]:List Ex)) (wr:=true) (by simp -implicitDefEqProofs [Qa.get,Qm,Qh]) (Qn _)) (by decide) (by omega) (by simp -implicitDefEqProofs) (by simp -implicitDefEqProofs) (by simp -implicitDefEqProofs;exact⟨ge2,ge1,ge3⟩) (by simp -implicitDefEqProofs)
 ·
   simp -implicitDefEqProofs [Qd,m3,hmm];refine Qc hcm ?_;simp -implicitDefEqProofs;exact fin _ .snil 6 [] [109,cm] false ([]:List Ex) (decide (0<x.mutexes % 3)) (by simp -implicitDefEqProofs [Qf,Qj]) .snil (by decide) (by decide) (by simp -implicitDefEqProofs) (by simp -implicitDefEqProofs) (by simp -implicitDefEqProofs) (by simp -implicitDefEqProofs)
 ·
   simp -implicitDefEqProofs [Qd,m3,hmm];refine Qc hcm ?_;simp -implicitDefEqProofs;exact fin _ .snil 7 [] [109,cm] false ([]:List Ex) (decide (0<x.mutexes % 3)) (by simp -implicitDefEqProofs [Qf,Qj]) .snil (by decide) (by decide) (by simp -implicitDefEqProofs) (by simp -implicitDefEqProofs) (by simp -implicitDefEqProofs) (by simp -implicitDefEqProofs)
 ·
   simp -implicitDefEqProofs [Qd,m3,hmm];refine Qc hcm ?_;simp -implicitDefEqProofs;refine Qc hr0 ?_;simp -implicitDefEqProofs;exact fin _ .snil 8 r [109,cm] false ([]:List Ex) (decide (0<x.mutexes % 3)) (by simp -implicitDefEqProofs [Qf,Qj]) .snil (by decide) (by omega) (by simp -implicitDefEqProofs) (by simp -implicitDefEqProofs) (by simp -implicitDefEqProofs) (by simp -implicitDefEqProofs)
 ·
   simp -implicitDefEqProofs [Qd,s3,hsm];refine Qc hcs ?_;simp -implicitDefEqProofs;exact fin _ .snil 9 [] [115,cs] false ([]:List Ex) (decide (0<x.sems % 3)) (by simp -implicitDefEqProofs [Qf,Qj]) .snil (by decide) (by decide) (by simp -implicitDefEqProofs) (by simp -implicitDefEqProofs) (by simp -implicitDefEqProofs) (by simp -implicitDefEqProofs)
 ·
   simp -implicitDefEqProofs [Qd,s3,hsm];refine Qc hcs ?_;simp -implicitDefEqProofs;exact fin _ .snil 10 [] [115,cs] false ([]:List Ex) (decide (0<x.sems % 3)) (by simp -implicitDefEqProofs [Qf,Qj]) .snil (by decide) (by decide) (by simp -implicitDefEqProofs) (by simp -implicitDefEqProofs) (by simp -implicitDefEqProofs) (by simp -implicitDefEqProofs)
 ·
   simp -implicitDefEqProofs [Qd,htm,htw];refine Qc hct ?_;simp -implicitDefEqProofs;exact fin _ .snil 11 [] [116,ct] false ([]:List Ex) true (by simp -implicitDefEqProofs [Qf,Qj]) .snil (by decide) (by decide) (by simp -implicitDefEqProofs) (by simp -implicitDefEqProofs) (by simp -implicitDefEqProofs) (by simp -implicitDefEqProofs)
 ·
   simp -implicitDefEqProofs [Qd,htm,htw];refine Qc hct ?_;simp -implicitDefEqProofs;exact fin _ .snil 12 [] [116,ct] false ([]:List Ex) true (by simp -implicitDefEqProofs [Qf,Qj]) .snil (by decide) (by decide) (by simp -implicitDefEqProofs) (by simp -implicitDefEqProofs) (by simp -implicitDefEqProofs) (by simp -implicitDefEqProofs)
 ·
   simp -implicitDefEqProofs [Qd];refine Qc he1 ?_;simp -implicitDefEqProofs [Qd];exact fin _ (.vec (L,4) 1) 13 [] [] false ([.mk op1 z1 w1 p1]:List Ex) true (by simp -implicitDefEqProofs [Qf,Qj]) (.vec (t:=192) (s:=4) (es:=Qm ([.mk op1 z1 w1 p1]:List Ex)) (wr:=true) (by simp -implicitDefEqProofs [Qa.get,Qm,Qh]) (Qn _)) (by decide) (by decide) (by simp -implicitDefEqProofs) (by simp -implicitDefEqProofs) (by simp -implicitDefEqProofs;exact ge1) (by simp -implicitDefEqProofs)
 ·
   simp -implicitDefEqProofs [Qd];refine Qc he1 ?_;simp -implicitDefEqProofs [Qd];exact fin _ (.vec (L,4) 1) 14 [] [] false ([.mk op1 z1 w1 p1]:List Ex) true (by simp -implicitDefEqProofs [Qf,Qj]) (.vec (t:=192) (s:=4) (es:=Qm ([.mk op1 z1 w1 p1]:List Ex)) (wr:=true) (by simp -implicitDefEqProofs [Qa.get,Qm,Qh]) (Qn _)) (by decide) (by decide) (by simp -implicitDefEqProofs) (by simp -implicitDefEqProofs) (by simp -implicitDefEqProofs;exact ge1) (by simp -implicitDefEqProofs)
 ·
   simp -implicitDefEqProofs [Qd];refine Qc he1 ?_;simp -implicitDefEqProofs [Qd];exact fin _ (.vec (L,4) 1) 15 [] [] false ([.mk op1 z1 w1 p1]:List Ex) true (by simp -implicitDefEqProofs [Qf,Qj]) (.vec (t:=192) (s:=4) (es:=Qm ([.mk op1 z1 w1 p1]:List Ex)) (wr:=true) (by simp -implicitDefEqProofs [Qa.get,Qm,Qh]) (Qn _)) (by decide) (by decide) (by simp -implicitDefEqProofs) (by simp -implicitDefEqProofs) (by simp -implicitDefEqProofs;exact ge1) (by simp -implicitDefEqProofs)
 ·
   simp -implicitDefEqProofs [Qd];refine Qc he1 ?_;simp -implicitDefEqProofs [Qd];exact fin _ (.vec (L,4) 1) 16 [] [] false ([.mk op1 z1 w1 p1]:List Ex) true (by simp -implicitDefEqProofs [Qf,Qj]) (.vec (t:=192) (s:=4) (es:=Qm ([.mk op1 z1 w1 p1]:List Ex)) (wr:=true) (by simp -implicitDefEqProofs [Qa.get,Qm,Qh]) (Qn _)) (by decide) (by decide) (by simp -implicitDefEqProofs) (by simp -implicitDefEqProofs) (by simp -implicitDefEqProofs;exact ge1) (by simp -implicitDefEqProofs)
def JV (x:Sm):Bool:=decide (x.threads.length<=6)&&x.threads.all fun l=>decide (l.length<=20)
theorem Light_ok (x:Sm):Ql TC 8 [Zj x] (.bool (JV x)):=by
 refine ent Tryz.func8 fun L K hL hR hN hP=>?_;simp[Zj];refine Qv.mk (fun hb=>?_) fun hb=>?_
 ·have h6:¬ x.threads.length<=6:=by simp at hb;omega
  have hl:JV x=false:=by unfold JV;rw[decide_eq_false h6]<;>rfl
  simp;exact hR _ (.pure rfl (by rw[hl];exact .refl _))
 ·have h6:x.threads.length<=6:=by simp at hb;omega
  simp;refine QB (α:=Nat) (fun k=>k<=x.threads.length/\(x.threads.take k).all (fun l=>decide (l.length<=20))=true) (fun k=>[(10,.slice (x.threads.map fun l=>.slice (l.map XH))),(11,.int .i64 x.threads.length),(12,.int .i64 (k:Int))]) (fun _=>[]) (fun k=>x.threads.length - k) 0 ⟨by simp,by simp⟩ twk ?_;rintro k L1 K1 ⟨hk,hal⟩ hL1 - hnext hex hrt - -;simp;refine Qv.mk (fun hb=>?_) fun hb=>?_
  ·have hkl:k<x.threads.length:=by simp at hb;omega
   obtain⟨l,hl⟩:=gE hkl;have hlv:x.threads[k]=l:=(gS hl).2;have e1:(0:Int)<=(k:Int):=by omega
   have e2:(k:Int)<x.threads.length:=by omega
   have w1:=wr2 k;have htk:x.threads.take (k+1)=x.threads.take k++[l]:=by rw[List.take_succ,hl]<;>rfl
   simp[e1,hlv,hkl];refine Qv.mk (fun hb2=>?_) (fun hb2=>?_)
   ·have h20:¬ l.length<=20:=by simp at hb2;omega
    have hlb:JV x=false:=by
     unfold JV;have:x.threads.all (fun l=>decide (l.length<=20))=false:=by
      rw[List.all_eq_false];exact⟨l,List.mem_of_getElem? hl,by simpa using h20⟩
     rw[this,Bool.and_false]
    simp;refine hrt _ ?_;exact hR _ (.pure rfl (by rw[hlb];exact .refl _))
   ·have h20:l.length<=20:=by simp at hb2;omega
    simp[w1];exact hnext _ (k+1) ⟨by omega,by rw[htk,List.all_append,hal];simp[h20]⟩ (by omega) twk
  ·have hkl:k=x.threads.length:=by simp at hb;omega
   subst hkl;rw[List.take_length] at hal;have hlb:JV x=true:=by unfold JV;rw[hal,decide_eq_true h6]<;>rfl
   simp;refine hex _ _ ?_;simp;exact hR _ (.pure rfl (by rw[hlb];exact .refl _))
def GenOut (deep:Nat) (l:List SS) (v:V):Prop:=∃ (out:List St) (rest:List SS),v = .tup [.slice (Qr out),.slice (rest.map XH)]/\(∀ s∈out,JY (deep+1) s)/\(∀ s∈rest,s∈l)/\cntL out+rest.length<=l.length
theorem cntL_app (a b:List St):cntL (a++b)=cntL a+cntL b:=by
 induction a with
 | nil=>simp[cntL]
 | cons x r ih=>rw[List.cons_append,cntL,cntL,ih];omega
theorem UC (a:List St):a.length<=cntL a:=by
 induction a with
 | nil=>simp[cntL]
 | cons x r ih=>
   rw[cntL];have:1<=cntS x:=by cases x;rw[cntS];omega
   simp;omega
theorem zero56':QQ TC.P 166=some (.agg [.int .u8 0,.int .u8 0,.int .u8 0,.int .u8 0,.int .i8 0]):=by kernel_rfl
theorem gstmts_ok (x:Sm) (hx:x.Ok):∀ (deep:Nat) (l:List SS) (most:Nat),deep<=100->(∀ s∈l,s.Ok)->l.length<=1000->most<=1000->Va TC 42 [Zj x,.slice (l.map XH),.int .i64 most,.int .i64 deep] (GenOut deep l):=by
 intro deep
 induction deep using Nat.strongRecOn with|_ deep ih=>?_
 intro l most hdp hlo hll hmo;refine AFn.ctx (C:=TCe [1000036]) (C':=TC) rfl rfl ?_;have hz:=zero56;have hz2:=zero56';have gst:=fun s hs=>AFn.ctx (C:=TC) (C':=TCe [1000036]) rfl rfl (gstmt_ok x hx s hs);simp only[Zj] at gst;refine ent Tryz.func42 fun L K hL hR hN hP=>?_;simp[Zj];refine Qw (WM (t:=10) (el:=56) (sz:=8) (by simp) (by decide)) ?_;refine QB (α:=List St × List SS × Nat) (fun q=>(∀ s∈q.1,JY (deep+1) s)/\(∀ s∈q.2.1,s∈l)/\cntL q.1+q.2.1.length<=l.length/\q.2.2<=1000)
  (fun q=>[(1,.slice (q.2.1.map XH)),(2,.int .i64 q.2.2),(3,.int .i64 deep),(4,.ptr (L,0) 0),(10,.vec (L,1) q.1.length)])
  (fun q=>[((L,1),.vec 56 8 (q.1.map We) q.1.length true),((L,0),.cells 25 [.int .u8 x.cells,.int .u8 x.array,.int .u8 x.mutexes,.int .u8 x.sems,.int .u8 x.budget,.int .i8 x.n,.slice (x.threads.map fun l=>.slice (l.map XH))])])
  (fun q=>q.2.1.length) ([],l,most) ⟨by simp,fun _ h=>h,by simp[cntL],hmo⟩ twk ?_
 rintro⟨out,l1,m⟩ L1 K1 ⟨ho,hsub,hcn,hm⟩ hL1 - hnext hex hrt - -;obtain⟨hLL,m4,m5⟩:=llu L hL1;simp at ho hsub hcn hm;have done:∀ s':ASt,Qf (TCe [1000036]).P s' Tryz.f42.results.toList=some [.vec (L,1) out.length,.slice (l1.map XH)]->s'.σ.get (L,1)=some (.vec 56 8 (out.map We) out.length true)->K .ret s':=fun s' h1 h2=>
  hR _ (.keeps s'.σ [] h1 (by simp) (by simp) (fun _ h=>h) (by simp[Qa.keys]) (by simp[Qa.keys]) (.tup (.cons (.vec (t:=56) (s:=8) (es:=out.map We) (wr:=true) h2 (Qn _)) (.cons (.refl _) .nil))) ⟨_,⟨out,l1,by rw[WG],ho,hsub,hcn⟩,rfl,rfl⟩)
 cases l1 with
 | nil=>
   simp;refine hex _ _ ?_;simp;exact done _ (by simp[Qf,Qj]) (by simp[Qa.get])
 | cons s r=>
   by_cases hm0:m=0
   ·subst hm0;simp;refine hex _ _ ?_;simp;exact done _ (by simp[Qf,Qj]) (by simp[Qa.get])
   ·have hmp:(0:Int)<(m:Int):=by omega
    have hmp2:0<m:=by omega
    have hrl:(0:Int)<(r.length:Int)+1:=by omega
    have w1:IntKind.i64.wrap ((m:Int) - 1)=((m - 1:Nat):Int):=by rw[wrap_i64 (by omega) (by omega)];omega
    have hsok:=hlo s (hsub s (by simp));have hcn':cntL out+(r.length+1)<=l.length:=hcn;have hsc:=hsok.c;have hrs:∀ z∈r,z∈l:=fun z hz=>hsub z (by simp[hz]);have htk:(r.map XH).take r.length=r.map XH:=List.take_of_length_le (by simp);simp[hmp2,hrl,w1,htk,hz2,XH,m4];refine Qe.ZN (gst s hsok) (by decide) rfl ?_;rintro v ⟨y,ok,⟨k,reg,name,ix,xs,rfl,q1,q2,q3,q4,q5,q6⟩,rfl⟩;simp[We,Qr,hz];refine Yh (α:=List St × List St × List SS) (fun q=>(∀ s∈q.1,JY deep s)/\(∀ s∈q.2.1,JY deep s)/\(∀ s∈q.2.2,s∈l)/\cntL q.1+cntL q.2.1+q.2.2.length<=r.length)
     (fun q=>[(1,.slice (q.2.2.map XH)),(2,.int .i64 ((m - 1:Nat):Int)),(3,.int .i64 deep),(4,.ptr (L,0) 0),(10,.vec (L,1) out.length),(12,.ptr (L1,1) 0),(13,.bool ok)])
     (fun q=>((L1,1),.cells 56 [.int .i64 k,.str (bs reg),.str (bs name),.bool ix,.slice (Qm xs),.slice (Qr q.1),.slice (Qr q.2.1),.int .i64 0])::[((L,1),.vec 56 8 (out.map We) out.length true),((L,0),.cells 25 [.int .u8 x.cells,.int .u8 x.array,.int .u8 x.mutexes,.int .u8 x.sems,.int .u8 x.budget,.int .i8 x.n,.slice (x.threads.map fun l=>.slice (l.map XH))])]) 2 ?_ ?_
    ·intro K3 hnext3 hex3 hrt3 hgo3 hpn3;refine Qv.mk (fun hb=>?_) fun hb=>?_
     ·have hk15:15<=k:=by simpa using hb
      by_cases hd0:deep=0
      ·have hdb:((deep:Int) == 0)=true:=by simp[hd0]
       simp[hdb];refine hex3 1 _ ?_;simp;exact hnext _ (out,r,m - 1) ⟨ho,hrs,by simp;omega,by simp;omega⟩ (by simp) (twk (hn:=by simp[m4]))
      ·have hdb:((deep:Int) == 0)=false:=by simp;omega
       have wd:IntKind.i64.wrap ((deep:Int) - 1)=((deep - 1:Nat):Int):=by rw[wrap_i64 (by omega) (by omega)];omega
       obtain⟨n4,hn4,hn4b⟩:∃ n4:Nat,s.c % 4=n4/\n4<=3:=⟨(s.c % 4).toNat,by omega,by omega⟩
       have c4:s.c.tmod 4=n4:=by rw[Int.tmod_eq_emod_of_nonneg hsc.1,hn4]
       have w4:IntKind.i64.wrap (n4:Int)=n4:=wrap_i64 (by omega) (by omega);have c5:s.c.tdiv 4=s.c / 4:=Int.tdiv_eq_ediv_of_nonneg hsc.1;have c6:IntKind.u8.wrap (s.c / 4)=s.c / 4:=wrap_u8 (by omega) (by omega);have c7:(s.c / 4).tmod 2=s.c / 4 % 2:=Int.tmod_eq_emod_of_nonneg (by omega);have c8:s.c.tdiv 8=s.c / 8:=Int.tdiv_eq_ediv_of_nonneg hsc.1;have c9:IntKind.u8.wrap (s.c / 8)=s.c / 8:=wrap_u8 (by omega) (by omega);obtain⟨n2,hn2,hn2b⟩:∃ n2:Nat,s.c / 8 % 2=n2/\n2<=1:=⟨(s.c / 8 % 2).toNat,by omega,by omega⟩
       have c10:(s.c / 8).tmod 2=n2:=by rw[Int.tmod_eq_emod_of_nonneg (by omega),hn2]
       have w5:IntKind.i64.wrap (n2:Int)=n2:=wrap_i64 (by omega) (by omega);have w6:IntKind.i64.wrap (1+(n2:Int))=((1+n2:Nat):Int):=by rw[wrap_i64 (by omega) (by omega)];omega
       have ih2:=fun l' most' (a:∀ s∈l',s.Ok) (b:l'.length<=1000) (c:most'<=1000)=>AFn.ctx (C:=TC) (C':=TCe [1000036]) rfl rfl (ih (deep - 1) (by omega) l' most' (by omega) a b c);simp only[Zj] at ih2;have hd1:deep - 1+1=deep:=by omega
       simp[hdb,c4,w4,wd,m4];refine Qe.ZN (ih2 r n4 (fun z hz=>hlo z (hrs z hz)) (by omega) (by omega)) (by decide) rfl ?_;rintro v ⟨body,rest,rfl,p1,p2,p3⟩;rw[hd1] at p1;simp;by_cases hk5:k=15
       ·have hkb:(k == 15)=true:=by simp[hk5]
        rcases hE:(s.c / 4 % 2 == 1)
        ·simp[hkb,c5,c6,c7,hE];exact hnext3 _ (body,[],rest) ⟨p1,by simp,fun z hz=>hrs z (p2 z hz),by simp[cntL];omega⟩ (Qi (by simp) (by simp) (by simp[Qr]) (by simp[m4]))
        ·simp[hkb,c5,c6,c7,c8,c9,c10,w5,w6,wd,hE,m4];refine Qe.ZN (ih2 rest (1+n2) (fun z hz=>hlo z (hrs z (p2 z hz))) (by omega) (by omega)) (by decide) rfl ?_;rintro v ⟨els,rest2,rfl,t1,t2,t3⟩;rw[hd1] at t1;simp;exact hnext3 _ (body,els,rest2) ⟨p1,t1,fun z hz=>hrs z (p2 z (t2 z hz)),by simp;omega⟩ (Qi (by simp) (by simp) (by simp) (by simp[m4]))
       ·have hkb:(k == 15)=false:=by simp[hk5]
        simp[hkb];exact hnext3 _ (body,[],rest) ⟨p1,by simp,fun z hz=>hrs z (p2 z hz),by simp[cntL];omega⟩ (Qi (by simp) (by simp) (by simp[Qr]) (by simp[m4]))
     ·simp;refine hnext3 _ ([],[],r) ⟨by simp,by simp,fun s hs=>hsub s (by simp[hs]),by simp[cntL]⟩ (Qi (by simp) (by simp) (by simp[Qr]) (by simp[m4]))
    ·rintro⟨body,els,rest⟩ ⟨g1,g2,g3,g4⟩;simp at g1 g2 g3 g4;cases ok with
     | false=>
       simp;exact hnext _ (out,rest,m - 1) ⟨ho,g3,by simp;omega,by simp;omega⟩ (by simp;omega) (twk (hn:=by simp[m4]))
     | true=>
       have c1:out.length<=9223372036854775806:=by have:=UC out;omega
       have c2:(out.length+1)*128<=140737488355328:=by have:=UC out;omega
       simp[c1,c2,m4];refine hnext _ (out++[.mk k reg name ix xs body els 0],rest,m - 1) ⟨?_,g3,?_,by simp;omega⟩ (by simp;omega) (Qb (by simp) (by simp[We]) (by simp[m4]))
       ·intro z hz';simp at hz';rcases hz' with hz'|rfl
        ·exact ho z hz'
        ·refine⟨q1,q2,q3,q4,q5,q6,⟨?_,?_⟩,g1,g2⟩
         ·have:=UC body;omega
         ·have:=UC els;omega
       ·simp[cntL_app,cntL,cntS];omega
end Go.Awp.R1
