/- The plain law, text S2: what names are about; programs as instructions. No program is in sight. -/
import Derived.Test.YtnielafbkgpgjaaGreatDoorX24
set_option linter.all false
set_option maxRecDepth 100000
set_option maxHeartbeats 8000000
namespace Go.Awp.Sp
structure Zq where
 sort:Int
 base:Int
 len:Int
 num:Cx
 deriving DecidableEq,Inhabited
abbrev Qp:=List (Bs × Zq)
def Um (d:Dc):Option Int:=
 if d.sort=1 then (if d.num.im=0/\1<=d.num.re/\d.num.re<=8 then some d.num.re else none)
 else if d.sort=3 then (if d.num.im=0/\0<=d.num.re/\d.num.re<=1048576 then some 1 else none)
 else if d.sort=4 then (if d.num.im=0/\1<=d.num.re/\d.num.re<=100 then some 0 else none)
 else some 1
def WJ (d:Dc):Bs:=if d.sort=4 then wBudget else d.name
structure Decls where
 things:Qp
 objects:Int
 threads:List Bs
 budget:Int
def declare (t:Decls) (d:Dc):Except Int Decls:=
 match t.things.lookup (WJ d) with
 | some _=>.error QCz
 | none=>match Um d with
   | none=>.error Vr
   | some n=>
     let t':Decls:=⟨t.things++[(WJ d,⟨d.sort,0,n,d.num⟩)],t.objects+n,if d.sort=5 then t.threads++[WJ d] else t.threads,if d.sort=4 then d.num.re else t.budget⟩
     if 6<t'.threads.length∨40<t'.things.length∨60<t'.objects then .error UZ else .ok t'
def Xr:Decls->List Dc->Except Er Decls
 | t,[]=>.ok t
 | t,d::r=>match declare t d with
   | .error e=>.error (d.place,e)
   | .ok t=>Xr t r
def rebase (ts:Qp) (s:Bs) (b:Int):Qp:=ts.map fun x=>if x.1=s then (x.1,{ x.2 with base:=b }) else x
def lenOf (ts:Qp) (s:Bs):Int:=((ts.lookup s).map Zq.len).getD 0
def Zc (g:Int->Bool):Int × Qp->List Dc->Int × Qp
 | a,[]=>a
 | (n,ts),d::r=>if g d.sort then Zc g (n+lenOf ts d.name,rebase ts d.name n) r else Zc g (n,ts) r
def Xq (ts:Qp) (ds:List Dc):Int × Qp × Int:=
 let a:=Zc (fun s=>s == 0||s == 1) (0,ts) ds
 let b:=Zc (fun s=>s == 2) a ds
 let c:=Zc (fun s=>s == 3) b ds
 let d:=Zc (fun s=>s == 5) c ds
 (c.1,d.2,d.1)
def regC (ts:Qp) (regs:List Bs) (s:Bs):Except Int (List Bs):=
 match ts.lookup s with
 | some _=>.error Jh
 | none=>if regs.contains s then .ok regs else if regs.length=8 then .error UZ else .ok (regs++[s])
mutual
def ZT (ts:Qp):List Bs->Ex->Except Int (List Bs)
 | regs,.mk op _ name parts=>if op=wReg then regC ts regs name else Xm ts regs parts
def Xm (ts:Qp):List Bs->List Ex->Except Int (List Bs)
 | regs,[]=>.ok regs
 | regs,e::r=>match ZT ts regs e with
   | .error e=>.error e
   | .ok regs=>Xm ts regs r
end
def uw (k:Int) (ix:Bool):Int:=if Xt k then (if ix then 1 else 0) else if k<=8 then 2 else if k<=10 then 3 else 5
def Yb (ts:Qp) (s:St):Int:=
 if Qz s.kind then
  match ts.lookup s.name with
  | none=>wv
  | some x=>if x.sort=uw s.kind s.indexed then 0 else Jh
 else 0
mutual
def qM (ts:Qp):List Bs->St->Except Er (List Bs)
 | regs,.mk k reg name ix xs body els p=>
   if Yb ts (.mk k reg name ix xs body els p)≠0 then .error (p,Yb ts (.mk k reg name ix xs body els p)) else
   match Xm ts regs xs with
   | .error e=>.error (p,e)
   | .ok regs=>match (if Wh k then regC ts regs reg else .ok regs) with
     | .error e=>.error (p,e)
     | .ok regs=>match Wu ts regs body with
       | .error e=>.error e
       | .ok regs=>Wu ts regs els
def Wu (ts:Qp):List Bs->List St->Except Er (List Bs)
 | regs,[]=>.ok regs
 | regs,s::r=>match qM ts regs s with
   | .error e=>.error e
   | .ok regs=>Wu ts regs r
end
def WT (ts:Qp):List Dc->Except Er (List (List Bs))
 | []=>.ok []
 | d::r=>if d.sort=5 then
    match Wu ts [] d.body with
    | .error e=>.error e
    | .ok regs=>match WT ts r with
      | .error e=>.error e
      | .ok l=>.ok (regs::l)
   else WT ts r
structure Table where
 things:Qp
 objects:Int
 first:Int
 threads:List Bs
 regs:List (List Bs)
 budget:Int
def Ya (ds:List Dc):Except Er Table:=
 match Xr ⟨[],0,[],100⟩ ds with
 | .error e=>.error e
 | .ok t=>
   if t.threads=[] then .error (0,wv) else
   let p:=Xq t.things ds
   match WT p.2.1 ds with
   | .error e=>.error e
   | .ok regs=>.ok ⟨p.2.1,t.objects,p.1,t.threads,regs,t.budget⟩
structure Ins where
 kind:Int
 reg:Int
 base:Int
 len:Int
 indexed:Bool
 exprs:List Ex
 Jc:Int
 deriving Inhabited
structure Th where
 code:List Ins
 regs:List Bs
 deriving Inhabited
structure Pg where
 threads:List Th
 cells:List Cx
 mutexes:Int
 sems:List Int
 budget:Int
 deriving Inhabited
def idxOf (l:List Bs) (s:Bs):Int:=match l.findIdx? (· == s) with|some i=>i|none=>-1
def wR (ts:Qp) (regs:List Bs) (s:St):Ins:=
 ⟨s.kind,if Wh s.kind then idxOf regs s.reg else -1,if Qz s.kind then ((ts.lookup s.name).map Zq.base).getD 0 else 0,if Qz s.kind then lenOf ts s.name else 0,s.indexed,s.exprs,0⟩
def WS (xs:List Ex) (to:Int):Ins:=⟨15,-1,0,0,false,xs,to⟩
def Vo (to:Int):Ins:=⟨16,-1,0,0,false,[],to⟩
mutual
def insS (ts:Qp) (regs:List Bs):Nat->St->List Ins
 | p,.mk k reg name ix xs body els at_=>
   if k<15 then [wR ts regs (.mk k reg name ix xs body els at_)] else
   let b:=insL ts regs (p+1) body
   let e:=p+1+b.length
   if k=16 then WS xs (e+1:Nat)::(b++[Vo p])
   else match els with
    | []=>WS xs e::b
    | s::r=>
      let c:=insS ts regs (e+1) s
      let c':=c++insL ts regs (e+1+c.length) r
      WS xs (e+1:Nat)::(b++[Vo ((e+1+c'.length:Nat):Int)]++c')
def insL (ts:Qp) (regs:List Bs):Nat->List St->List Ins
 | _,[]=>[]
 | p,s::r=>let c:=insS ts regs p s;c++insL ts regs (p+c.length) r
end
def XO (ts:Qp):List (List Bs)->Pg->List Dc->Option Pg
 | _,p,[]=>some p
 | rs,p,d::r=>
   if d.sort=0 then XO ts rs { p with cells:=p.cells++[d.num] } r
   else if d.sort=1 then XO ts rs { p with cells:=p.cells++List.replicate (lenOf ts d.name).toNat zero } r
   else if d.sort=2 then XO ts rs { p with mutexes:=p.mutexes+1 } r
   else if d.sort=3 then XO ts rs { p with sems:=p.sems++[d.num.re] } r
   else if d.sort=5 then
    let regs:=rs.getD p.threads.length []
    let c:=insL ts regs 0 d.body
    if 200<c.length then none else XO ts rs { p with threads:=p.threads++[⟨c,regs⟩] } r
   else XO ts rs p r
def zI (t:Table) (ds:List Dc):Option Pg:=XO t.things t.regs ⟨[],[],0,[],t.budget⟩ ds
def Jb (s:Bs):Except Er Pg:=
 if 16384<s.length then .error (0,UZ) else
 match YI s with
 | .error e=>.error e
 | .ok ds=>match Ya ds with
   | .error e=>.error e
   | .ok t=>match zI t ds with
     | none=>.error (0,UZ)
     | some p=>.ok p
end Go.Awp.Sp
namespace Go.Awp.R1
open Go Go.Awp Go.Proofs Go.Awp.Sp
def Xg (z:Cx):Prop:=z.re.natAbs<=1048576/\z.im.natAbs<=1048576
theorem zr (z:Cx) (hz:Xg z) (a b:Int):Ql TC 136 [Qu z,.int .i64 a,.int .i64 b] (.tup [.int .i64 z.re,.bool (decide (z.im=0)&&decide (a<=z.re)&&decide (z.re<=b))]):=by
 have hz0:fz 0=0:=WZ;have f0:QV 0:=by unfold QV;simp
 have feq:(FloatKind.f64.format.order (fz z.im) 0 == some Ordering.eq)=decide (z.im=0):=by
  have:=uX (QD hz.2) f0
  rwa [hz0] at this
 have hti:=ZQ (QD hz.1);refine ent Tryz.func136 fun L K hL hR hN hP=>?_;simp[Qu,feq,hti];by_cases h1:z.im=0
 ·by_cases h2:a<=z.re
  ·simp[h1,h2];exact hR _ (.pures rfl (by simp) (by simp[h1,h2];exact .refl _))
  ·simp[h1,h2];exact hR _ (.pures rfl (by simp) (by simp[h1,h2];exact .refl _))
 ·simp[h1];exact hR _ (.pures rfl (by simp) (by simp[h1];exact .refl _))
def objN (d:Dc):Int:=if d.sort=1 then d.num.re else if d.sort=4 then 0 else 1
def objB (d:Dc):Bool:=
 if d.sort=1 then decide (d.num.im=0)&&decide (1<=d.num.re)&&decide (d.num.re<=8)
 else if d.sort=3 then decide (d.num.im=0)&&decide (0<=d.num.re)&&decide (d.num.re<=1048576)
 else if d.sort=4 then decide (d.num.im=0)&&decide (1<=d.num.re)&&decide (d.num.re<=100) else true
theorem JO (d:Dc):Um d=if objB d=true then some (objN d) else none:=by
 unfold Um objB objN;by_cases h1:d.sort=1
 ·simp[h1,and_assoc]
 ·by_cases h3:d.sort=3
  ·simp[h3,and_assoc]
  ·by_cases h4:d.sort=4
   ·simp[h4,and_assoc]
   ·simp[h1,h3,h4]
theorem QWz (d:Dc) (hz:Xg d.num):Ql TC 92 [QO d] (.tup [.int .i64 (objN d),.bool (objB d)]):=by
 refine ent Tryz.func92 fun L K hL hR hN hP=>?_;simp[QO];by_cases h1:d.sort=1
 ·have hb:(d.sort == 1)=true:=by simp[h1]
  simp[hb];refine Qc (zr d.num hz 1 8) ?_;simp;refine hR _ (.pures rfl (by simp) ?_);unfold objN objB;rw[if_pos h1,if_pos h1];exact .refl _
 ·have hb:(d.sort == 1)=false:=by simp[h1]
  simp[hb];by_cases h3:d.sort=3
  ·have hb:(d.sort == 3)=true:=by simp[h3]
   simp[hb];refine Qc (zr d.num hz 0 1048576) ?_;simp;refine hR _ (.pures rfl (by simp) ?_);unfold objN objB;rw[if_neg h1,if_neg h1,if_pos h3,if_neg (by omega)];exact .refl _
  ·have hb:(d.sort == 3)=false:=by simp[h3]
   simp[hb];by_cases h4:d.sort=4
   ·have hb:(d.sort == 4)=true:=by simp[h4]
    simp[hb];refine Qc (zr d.num hz 1 100) ?_;simp;refine hR _ (.pures rfl (by simp) ?_);unfold objN objB;rw[if_neg h1,if_neg h1,if_neg h3,if_pos h4,if_pos h4];exact .refl _
   ·have hb:(d.sort == 4)=false:=by simp[h4]
    simp[hb];refine hR _ (.pures rfl (by simp) ?_);unfold objN objB;rw[if_neg h1,if_neg h1,if_neg h3,if_neg h4,if_neg h4];exact .refl _
def Wa (x:Zq):V:=.agg [.int .i64 x.sort,.int .i64 x.base,.int .i64 x.len,Qu x.num]
def WD (ts:Qp):List V:=ts.map fun x=>V.str (bs x.1)
def Wv (ts:Qp):List V:=ts.map fun x=>Wa x.2
def mblk (ts:Qp):Blk:=.map (WD ts) (Wv ts) ts.length
theorem Qdz (a b:Bs):(bs a == bs b)=(a == b):=by
 show (a.toArray == b.toArray)=_;simp
theorem ZD {s:Bs}:∀ (ts:Qp) (i:Nat),ts.lookup s=none->Jd (.str (bs s)) (WD ts) i=some none
 | [],i,_=>rfl
 | (w,x)::ts,i,h=>by
   rw[List.lookup_cons] at h;split at h
   ·cases h
   ·rename_i hne;show (match JT (.str (bs s)) (.str (bs w)) with|some true=>some (some i)|some false=>Jd _ (WD ts) (i+1)|none=>none)=_;have:JT (.str (bs s)) (.str (bs w))=some false:=by show some (bs s == bs w)=_;rw[Qdz,hne]
    rw[this];exact ZD ts (i+1) h
theorem Yv {s:Bs} {y:Zq}:∀ (ts:Qp) (i:Nat),ts.lookup s=some y->∃ k,ts[k]? = some (s,y)/\(∀ j,j<k->∀ z,ts[j]? = some z->z.1≠s)/\Jd (.str (bs s)) (WD ts) i=some (some (i+k))
 | [],i,h=>by cases h
 | (w,x)::ts,i,h=>by
   rw[List.lookup_cons] at h;have hf:Jd (.str (bs s)) (WD ((w,x)::ts)) i=(match JT (.str (bs s)) (.str (bs w)) with|some true=>some (some i)|some false=>Jd (.str (bs s)) (WD ts) (i+1)|none=>none):=rfl;split at h
   ·rename_i he;cases h;have hw:s=w:=eq_of_beq he;subst hw;refine⟨0,rfl,fun j hj=>by omega,?_⟩;have:JT (.str (bs s)) (.str (bs s))=some true:=by show some (bs s == bs s)=_;rw[Qdz];simp
    rw[hf,this]<;>rfl
   ·rename_i hne;have:JT (.str (bs s)) (.str (bs w))=some false:=by show some (bs s == bs w)=_;rw[Qdz,hne]
    obtain⟨k,h1,h2,h3⟩:=Yv ts (i+1) h;refine⟨k+1,by simpa using h1,fun j hj z hz=>?_,?_⟩
    ·cases j with
     | zero=>simp at hz;subst hz;intro e;simp at e;rw[<- e] at hne;simp at hne
     | succ j=>exact h2 j (by omega) z (by simpa using hz)
    ·rw[hf,this];simp only;rw[h3];congr 2;omega
def YS:V:=.agg [.int .i64 0,.int .i64 0,.int .i64 0,.cplx .f64 0 0]
theorem Zg:mapT TC.P 91=some (9,150):=by kernel_rfl
theorem key9 (s:Bs):Vn TC.P 9 (.str (bs s))=true:=by
 unfold Vn;rw[show Qo TC.P 9 = .str from by kernel_rfl]<;>rfl
theorem jc:QQ TC.P 150=some YS:=by kernel_rfl
theorem jV {ts:Qp} {s:Bs} (h:ts.lookup s=none) (ok:Bool):XS TC.P 91 (WD ts) (Wv ts) (.str (bs s)) ok=some (if ok then .tup [YS,.bool false] else YS):=by
 unfold XS;rw[Zg];simp only[Option.bind_some];rw[if_pos (key9 s),ZD ts 0 h];simp only[Option.bind_some];rw[jc]<;>rfl
theorem jU {ts:Qp} {s:Bs} {x:Zq} (h:ts.lookup s=some x) (ok:Bool):XS TC.P 91 (WD ts) (Wv ts) (.str (bs s)) ok=some (if ok then .tup [Wa x,.bool true] else Wa x):=by
 unfold XS;rw[Zg];simp only[Option.bind_some];obtain⟨k,h1,_,h3⟩:=Yv ts 0 h;rw[if_pos (key9 s),h3];simp only[Option.bind_some,Nat.zero_add];have:(Wv ts)[k]? = some (Wa x):=by unfold Wv;rw[List.getElem?_map,h1]<;>rfl
 rw[this]<;>rfl
theorem setT_new {ts:Qp} {s:Bs} (h:ts.lookup s=none) (x:Zq):setM TC.P 91 (WD ts) (Wv ts) ts.length (.str (bs s)) (Wa x)=some (mblk (ts++[(s,x)])):=by
 unfold setM;rw[Zg];simp only[Option.bind_some];rw[if_pos (key9 s),ZD ts 0 h];simp[mblk,WD,Wv]
def QJq (ts:Qp):Prop:=(ts.map (·.1)).Nodup
theorem Qnq {ts:Qp} {s:Bs} {x:Zq} (hu:QJq ts) (h:ts.lookup s=some x) (b:Int):setM TC.P 91 (WD ts) (Wv ts) ts.length (.str (bs s)) (Wa { x with base:=b })=some (mblk (rebase ts s b)):=by
 unfold setM;rw[Zg];simp only[Option.bind_some];obtain⟨k,h1,h2,h3⟩:=Yv ts 0 h;rw[if_pos (key9 s),h3];simp only[Option.map_some,Nat.zero_add];have e1:WD (rebase ts s b)=WD ts:=by
  unfold WD rebase;rw[List.map_map];apply List.map_congr_left;intro y _;simp only[Function.comp];split<;>rfl
 have e2:Wv (rebase ts s b)=(Wv ts).set k (Wa { x with base:=b }):=by
  unfold Wv rebase;rw[List.map_map];apply List.ext_getElem?;intro j;rw[List.getElem?_map,List.getElem?_set,List.getElem?_map];by_cases hj:k=j
  ·subst hj;have hk:k<ts.length:=(gS h1).1;rw[if_pos rfl,h1];simp[hk]
  ·rw[if_neg hj];cases hy:ts[j]? with
   | none=>rfl
   | some y=>
     have hne:y.1≠s:=fun e=>by
      have hk:k<ts.length:=(gS h1).1;have hjl:j<ts.length:=(gS hy).1;have hu:(ts.map (·.1)).Nodup:=hu;refine hj ((List.getElem_inj (xs:=ts.map (·.1)) (h₀:=by simpa using hk) (h₁:=by simpa using hjl) hu).1 ?_);have a1:=(gS h1).2;have a2:=(gS hy).2;rw[List.getElem_map,List.getElem_map,a1,a2,e]
     simp[hne]
 have e3:(rebase ts s b).length=ts.length:=by unfold rebase;simp
 unfold mblk;rw[e1,e2,e3]
structure TIds where
 tb:Id
 mid:Id
 tid:Id
structure TIds.Ok (i:TIds):Prop where
 n1:i.tb≠i.mid
 n2:i.tb≠i.tid
 n3:i.mid≠i.tid
def tabB (i:TIds) (t:Decls) (first:Int) (regs:V):List V:=[.map i.mid,.int .i64 t.objects,.int .i64 first,.vec i.tid t.threads.length,regs,.int .i64 t.budget]
def tabS (i:TIds) (t:Decls) (first:Int) (regs:V):Qa:=[(i.tb,.cells 94 (tabB i t first regs)),(i.mid,mblk t.things),(i.tid,.vec 9 1 (t.threads.map encS) t.threads.length true)]
def decR (d:Dc):Dc:={ d with name:=WJ d }
def Wo (t:Decls) (d:Dc):Except Int Decls:=match declare t d with
 | .error e=>.error e
 | .ok t'=>.ok { t' with budget:=t.budget }
theorem uS (t:Qp):(WD t).length=t.length:=by simp[WD]
theorem objN_le (d:Dc) (h:objB d=true):0<=objN d/\objN d<=8:=by
 unfold objB at h;unfold objN;by_cases h1:d.sort=1
 ·simp[h1] at h ⊢;omega
 ·by_cases h4:d.sort=4
  ·simp[h4]
  ·simp[h1,h4]
theorem Wfq (i:TIds) (hi:i.Ok) (t:Decls) (d:Dc) (first:Int) (regs:V) (hz:Xg d.num) (ho:0<=t.objects/\t.objects<=60) (hth:t.threads.length<=6) (htn:t.things.length<=40):
 ADet TC 59 [.ptr i.tb 0,QO (decR d)] (tabS i t first regs) (.ret (.int .i64 (match Wo t d with|.ok _=>0|.error e=>e))) (match Wo t d with|.ok t'=>tabS i t' first regs|.error _=>[]):=by
 obtain⟨n1,n2,n3⟩:=hi;refine ADet.down (ex:=[1,1000029]) ?_;have hob:=Ql.up (ex:=[1,1000029]) (QWz (decR d) hz);have hmt:=Zg;have hst9:Qo TC.P 9 = .str:=by kernel_rfl
 refine ent Tryz.func59 fun L K hL hR hN hP=>?_;have hL1:i.tb.1<L:=hL i.tb (by simp[Qa.keys,tabS]);have hL2:i.mid.1<L:=hL i.mid (by simp[Qa.keys,tabS]);have hL3:i.tid.1<L:=hL i.tid (by simp[Qa.keys,tabS]);have a1:∀ j:Nat,¬ (L,j)=i.tb:=fun j e=>by rw[<- e] at hL1;exact Nat.lt_irrefl _ hL1
 have a2:∀ j:Nat,¬ (L,j)=i.mid:=fun j e=>by rw[<- e] at hL2;exact Nat.lt_irrefl _ hL2
 have a3:∀ j:Nat,¬ (L,j)=i.tid:=fun j e=>by rw[<- e] at hL3;exact Nat.lt_irrefl _ hL3
 have b1:∀ j:Nat,¬ i.tb=(L,j):=fun j e=>a1 j e.symm;have b2:∀ j:Nat,¬ i.mid=(L,j):=fun j e=>a2 j e.symm;have b3:∀ j:Nat,¬ i.tid=(L,j):=fun j e=>a3 j e.symm;obtain⟨tb,mid,tid⟩:=i;simp only at n1 n2 n3 a1 a2 a3 b1 b2 b3 hL1 hL2 hL3;have m1:=n1.symm;have m2:=n2.symm;have m3:=n3.symm;have zst:YS = .agg [.int .i64 0,.int .i64 0,.int .i64 0,.cplx .f64 0 0]:=rfl;simp[tabS,tabB,mblk,QO,Qu,decR];refine QJ [(5,12),(5,14),(5,13),(5,15)] (by kernel_rfl) ?_;rcases hlk:t.things.lookup (WJ d) with _|y
 ·have hfn:=ZD t.things 0 hlk;have hz0:=jc;simp[hmt,hst9,hfn,hz0,zst,a1,a2,n1];refine⟨?_,?_⟩
  ·intro q hq v w hv hw id hid;simp at hq;rcases hq with rfl|rfl|rfl|rfl<;>simp at hv hw<;>subst hv<;>subst hw<;>(try (simp[Qq] at hid ⊢))<;>(try simp[hid,a1,a2])
  ·have hob:Ql (TCe [1,1000029]) 92 [.agg [.int .i64 d.sort,.str (bs (WJ d)),(.cplx .f64 (fz d.num.re) (fz d.num.im)),.slice (Qr d.body),.int .i64 d.place]] (.tup [.int .i64 (objN d),.bool (objB d)]):=hob;refine Qc hob ?_;rcases hB:objB d
   ·simp;have hde:Wo t d = .error 6:=by unfold Wo declare;rw[hlk];simp only[JO,hB]<;>rfl
    refine hR _ (.keep [] [] rfl (by simp) (by simp) (by simp[Qa.keys]) (by simp[Qa.keys]) (.refl _) ⟨by rw[hde],by rw[hde]⟩)
   ·simp;have hnl:1*t.threads.length<=100:=by omega
    obtain⟨thr,hthr⟩:∃ thr,thr=if d.sort=5 then t.threads++[WJ d] else t.threads:=⟨_,rfl⟩
    refine Yh (α:=Unit) (fun _=>True) (fun _=>[(0,.ptr tb 0),(3,.ptr (L,0) 0),(7,.int .i64 (objN d))]) (fun _=>[((L,0),.cells 84 [.int .i64 d.sort,.str (bs (WJ d)),(.cplx .f64 (fz d.num.re) (fz d.num.im)),.slice (Qr d.body),.int .i64 d.place]),(tb,.cells 94 [.map mid,.int .i64 t.objects,.int .i64 first,.vec tid thr.length,regs,.int .i64 t.budget]),(mid,.map (WD t.things) (Wv t.things) t.things.length),(tid,.vec 9 1 (thr.map encS) thr.length true)]) 2 ?_ ?_
    ·intro K1 hnext hex hrt hgo hpn;by_cases h5:d.sort=5
     ·rw[if_pos h5] at hthr;have hb5:(d.sort == 5)=true:=by simp[h5]
      have c1:t.threads.length<=9223372036854775806:=by omega
      have c2:(t.threads.length+1)*16<=140737488355328:=by omega
      simp[hb5,c1,c2,a1,a3,n2,n3];subst hthr;exact hnext _ () trivial (Qi (by simp) (by simp) (by simp[a1,a2,a3,b1,b2,b3,n1,n2,n3,m1,m2,m3]) (by simp[a1,a2,a3,n1,n2,n3]))
     ·rw[if_neg h5] at hthr;have hb5:(d.sort == 5)=false:=by simp[h5]
      subst hthr;simp[hb5];exact hnext _ () trivial (Qi (by simp) (by simp) (by simp[a1,a2,a3,b1,b2,b3,n1,n2,n3,m1,m2,m3]) (by simp[a1,a2,a3,n1,n2,n3]))
    ·rintro⟨⟩ -;have hset:=setT_new hlk ⟨d.sort,0,objN d,d.num⟩;have hthl:thr.length<=7:=by
      rw[hthr];split
      ·simp;omega
      ·omega
     simp[Wa,Qu] at hset;simp[a1,a2,a3,n1,n2,n3,hfn,hmt,hst9];have hon:0<=objN d/\objN d<=8:=objN_le d hB;have hw1:(IntKind.i64.wrap (t.objects+objN d))=t.objects+objN d:=wrap_i64 (by omega) (by omega);have hod:Um d=some (objN d):=by rw[JO,hB]<;>rfl
     have hbad:(6<thr.length∨40<t.things.length+1∨60<t.objects+objN d)->Wo t d = .error 2:=by
      intro h;unfold Wo declare;rw[hlk];simp only[hod];rw[if_pos (by rw[<- hthr];simpa using h)]<;>rfl
     by_cases h6:6<thr.length
     ·have h6':(6:Int)<thr.length:=by omega
      simp[h6',hw1];have hde:=hbad (.inl h6);refine hR _ ?_;refine (.keep [] [] rfl (by simp) (by simp) (by simp[Qa.keys]) (by simp[Qa.keys]) (.refl _) ⟨by rw[hde],by rw[hde]⟩)
     ·have h6':¬ (6:Int)<thr.length:=by omega
      by_cases h40:40<t.things.length+1
      ·have h40':(40:Int)<(WD t.things).length+1:=by have:=uS t.things;omega
       simp[h6',h40',hw1,a1,a2,n1];have hde:=hbad (.inr (.inl h40));refine hR _ ?_;refine (.keep [] [] rfl (by simp) (by simp) (by simp[Qa.keys]) (by simp[Qa.keys]) (.refl _) ⟨by rw[hde],by rw[hde]⟩)
      ·have h40':¬ (40:Int)<(WD t.things).length+1:=by have:=uS t.things;omega
       by_cases h60:60<t.objects+objN d
       ·simp[h6',h40',hw1,h60,a1,a2,n1];have hde:=hbad (.inr (.inr h60));refine hR _ ?_;refine (.keep [] [] rfl (by simp) (by simp) (by simp[Qa.keys]) (by simp[Qa.keys]) (.refl _) ⟨by rw[hde],by rw[hde]⟩)
       ·simp[h6',h40',hw1,h60,a1,a2,n1];have hde:Wo t d = .ok ⟨t.things++[(WJ d,⟨d.sort,0,objN d,d.num⟩)],t.objects+objN d,thr,t.budget⟩:=by
         unfold Wo declare;rw[hlk];simp only[hod];rw[if_neg (by rw[<- hthr];simp;omega)];rw[<- hthr]
        refine hR _ ?_;refine (.keep [] (tabS ⟨tb,mid,tid⟩ ⟨t.things++[(WJ d,⟨d.sort,0,objN d,d.num⟩)],t.objects+objN d,thr,t.budget⟩ first regs) rfl (by simp[tabS,tabB,mblk,Wa,Qu,WD,Wv]) (by simp) (by simp[Qa.keys,tabS,n1,n2,n3]) (by simp[Qa.keys,tabS]) (.refl _) ⟨by rw[hde],by rw[hde]⟩)
 ·obtain⟨kx,hk1,_,hk3⟩:=Yv t.things 0 hlk;have hvk:(Wv t.things)[kx]? = some (Wa y):=by unfold Wv;rw[List.getElem?_map,hk1]<;>rfl
  simp at hk3;simp[hmt,hst9,hk3,hvk,Wa,Qu,a1,a2,n1];refine⟨?_,?_⟩
  ·intro q hq v w hv hw id hid;simp at hq;rcases hq with rfl|rfl|rfl|rfl<;>(try simp at hv hw)<;>(try subst hv)<;>(try subst hw)<;>(try (simp[Qq] at hid ⊢))<;>(try simp[hid,a1,a2])
  ·have hde:Wo t d = .error 7:=by unfold Wo declare;rw[hlk]<;>rfl
   refine hR _ (.keep [] [] rfl (by simp) (by simp) (by simp[Qa.keys]) (by simp[Qa.keys]) (.refl _) ⟨by rw[hde],by rw[hde]⟩)
structure KIds where
 c:Id
 tb:Id
 mid:Id
 rid:Id
structure KIds.Ok (i:KIds):Prop where
 n1:i.c≠i.tb
 n2:i.c≠i.mid
 n3:i.c≠i.rid
 n4:i.tb≠i.mid
 n5:i.tb≠i.rid
 n6:i.mid≠i.rid
def kS (i:KIds) (tc:List V) (ts:Qp) (regs:List Bs):Qa:=[(i.c,.cells 146 [.ptr i.tb 0,.vec i.rid regs.length]),(i.tb,.cells 94 (.map i.mid::tc)),(i.mid,mblk ts),(i.rid,.vec 9 1 (regs.map encS) regs.length true)]
def errI {α:Type}:Except Int α->Int
 | .ok _=>0
 | .error e=>e
def kO (i:KIds) (tc:List V) (ts:Qp):Except Int (List Bs)->Qa
 | .ok r=>kS i tc ts r
 | .error _=>[]
theorem reg_ok (i:KIds) (hi:i.Ok) (tc:List V) (ts:Qp) (regs:List Bs) (s:Bs) (hr8:regs.length<=8):
 ADet TC 96 [.ptr i.c 0,encS s] (kS i tc ts regs) (.ret (.int .i64 (errI (regC ts regs s)))) (kO i tc ts (regC ts regs s)):=by
 obtain⟨n1,n2,n3,n4,n5,n6⟩:=hi;have hmt:=Zg;have hst9:Qo TC.P 9 = .str:=by kernel_rfl
 refine ent Tryz.func96 fun L K hL hR hN hP=>?_;have hL1:i.c.1<L:=hL i.c (by simp[Qa.keys,kS]);have hL2:i.tb.1<L:=hL i.tb (by simp[Qa.keys,kS]);have hL3:i.mid.1<L:=hL i.mid (by simp[Qa.keys,kS]);have hL4:i.rid.1<L:=hL i.rid (by simp[Qa.keys,kS]);have a1:∀ j:Nat,¬ (L,j)=i.c:=fun j e=>by rw[<- e] at hL1;exact Nat.lt_irrefl _ hL1
 have a2:∀ j:Nat,¬ (L,j)=i.tb:=fun j e=>by rw[<- e] at hL2;exact Nat.lt_irrefl _ hL2
 have a3:∀ j:Nat,¬ (L,j)=i.mid:=fun j e=>by rw[<- e] at hL3;exact Nat.lt_irrefl _ hL3
 have a4:∀ j:Nat,¬ (L,j)=i.rid:=fun j e=>by rw[<- e] at hL4;exact Nat.lt_irrefl _ hL4
 have b1:∀ j:Nat,¬ i.c=(L,j):=fun j e=>a1 j e.symm;have b2:∀ j:Nat,¬ i.tb=(L,j):=fun j e=>a2 j e.symm;have b3:∀ j:Nat,¬ i.mid=(L,j):=fun j e=>a3 j e.symm;have b4:∀ j:Nat,¬ i.rid=(L,j):=fun j e=>a4 j e.symm;obtain⟨c,tb,mid,rid⟩:=i;simp only at n1 n2 n3 n4 n5 n6 a1 a2 a3 a4 b1 b2 b3 b4 hL1 hL2 hL3 hL4;have m1:=n1.symm;have m2:=n2.symm;have m3:=n3.symm;have m4:=n4.symm;have m5:=n5.symm;have m6:=n6.symm;have zst:YS = .agg [.int .i64 0,.int .i64 0,.int .i64 0,.cplx .f64 0 0]:=rfl;rcases hlk:ts.lookup s with _|y
 ·have hfn:=ZD ts 0 hlk;have hz0:=jc;have hreg:regC ts regs s=if regs.contains s then .ok regs else if regs.length=8 then .error UZ else .ok (regs++[s]):=by unfold regC;rw[hlk]
  simp[kS,mblk,encS,hmt,hst9,hfn,hz0,zst,a1,a4,n1,n2,n3,n4,n5,n6];refine QB (α:=Nat) (fun k=>k<=regs.length/\∀ j,j<k->regs[j]?≠some s) (fun k=>[(0,.ptr c 0),(1,.str (bs s)),(25,.vec rid regs.length),(26,.int .i64 regs.length),(27,.int .i64 (k:Int))]) (fun _=>[(c,.cells 146 [.ptr tb 0,.vec rid regs.length]),(tb,.cells 94 (.map mid::tc)),(mid,.map (WD ts) (Wv ts) ts.length),(rid,.vec 9 1 (regs.map encS) regs.length true)]) (fun k=>regs.length - k) 0 ⟨by omega,fun j h2=>by omega⟩ (Qb (by simp) (by simp[b1,b2,b3,b4,n1,n2,n3,n4,n5,n6,m1,m2,m3,m4,m5,m6]) (by simp[a1,a2,a3,a4,n1,n2,n3,n4,n5,n6])) ?_;rintro k L1 K1 ⟨hk,hnone⟩ hL1 - hnext hex hrt - -;have hnrt:∀ s',K .ret { s' with lv:=L,nx:=1 }->K1 .ret s':=hrt;simp;refine Qv.mk (fun hb=>?_) fun hb=>?_
  ·have hk4:k<regs.length:=by simp at hb;omega
   obtain⟨x,hx⟩:=gE hk4;have b1':(0:Int)<=(k:Int):=by omega
   have b2':(k:Int)<regs.length:=by omega
   have w1:=wr2 k;simp[encS,hk4,b1',n3,n5,n6];have hx2:regs[k]=x:=by rw[List.getElem?_eq_getElem hk4] at hx;exact Option.some.inj hx
   by_cases he:x=s
   ·have he':(regs[k] == s)=true:=by rw[hx2,he];simp
    simp[he'];subst he;have hreg2:regC ts regs x = .ok regs:=by rw[hreg,if_pos (by simpa using List.mem_of_getElem? hx)]
    refine hnrt _ ?_;refine hR _ ?_;refine .keep [] (kS ⟨c,tb,mid,rid⟩ tc ts regs) rfl (by simp[kS,mblk]) (by simp) (by simp[Qa.keys,kS,n1,n2,n3,n4,n5,n6]) (by simp[Qa.keys,kS]) (.refl _) ⟨by rw[hreg2];rfl,by rw[hreg2];rfl⟩
   ·have he':(regs[k] == s)=false:=by rw[hx2];simpa using he
    simp[he',w1];exact hnext _ (k+1) ⟨by omega,fun j h2=>by
     by_cases e:j=k
     ·rw[e,hx];simpa using he
     ·exact hnone j (by omega)⟩ (by omega) (twk (hn:=by simp[n1,n2,n3,n4,n5,n6]))
  ·have hk4:k=regs.length:=by simp at hb;omega
   have hno:regs.contains s=false:=by
    rw[Bool.eq_false_iff];intro h;obtain⟨j,hj,h⟩:=List.getElem_of_mem (List.contains_iff_mem.1 h);exact hnone j (by omega) (by rw[List.getElem?_eq_getElem hj,h])
   rw[if_neg (by rw[hno];simp)] at hreg;simp;refine hex _ _ ?_;simp[n3,n5,n6];by_cases h8:regs.length=8
   ·have h8':((regs.length:Int) == 8)=true:=by simp;omega
    simp[h8'];rw[if_pos h8] at hreg;refine hR _ ?_;refine .keep [] [] rfl (by simp) (by simp) (by simp[Qa.keys]) (by simp[Qa.keys]) (.refl _) ⟨by rw[hreg];rfl,by rw[hreg];rfl⟩
   ·have h8':((regs.length:Int) == 8)=false:=by simp;omega
    have c1:regs.length<=9223372036854775806:=by omega
    have c2:(regs.length+1)*16<=140737488355328:=by omega
    rw[if_neg h8] at hreg;simp[h8',c1,c2,n3,n5,n6];refine hR _ ?_;refine .keep [] (kS ⟨c,tb,mid,rid⟩ tc ts (regs++[s])) rfl (by simp[kS,mblk,encS]) (by simp) (by simp[Qa.keys,kS,n1,n2,n3,n4,n5,n6]) (by simp[Qa.keys,kS]) (.refl _) ⟨by rw[hreg];rfl,by rw[hreg];rfl⟩
 ·obtain⟨kx,hk1,_,hk3⟩:=Yv ts 0 hlk;have hvk:(Wv ts)[kx]? = some (Wa y):=by unfold Wv;rw[List.getElem?_map,hk1]<;>rfl
  simp at hk3;simp[kS,mblk,encS,hmt,hst9,hk3,hvk,Wa,Qu,n1,n2,n4];have hreg:regC ts regs s = .error 9:=by unfold regC;rw[hlk]<;>rfl
  refine hR _ ?_;refine .keep [] [] rfl (by simp) (by simp) (by simp[Qa.keys]) (by simp[Qa.keys]) (.refl _) ⟨by rw[hreg];rfl,by rw[hreg];rfl⟩
theorem jH {ts:Qp} {regs r:List Bs} {s:Bs} (h:regC ts regs s = .ok r) (h8:regs.length<=8):r.length<=8:=by
 unfold regC at h;split at h
 ·cases h
 ·split at h
  ·cases h;exact h8
  ·split at h
   ·cases h
   ·cases h;simp;omega
mutual
theorem zj {ts:Qp}:∀ (e:Ex) {regs r:List Bs},ZT ts regs e = .ok r->regs.length<=8->r.length<=8
 | .mk op nm name parts,regs,r,h,h8=>by
   rw[ZT] at h;split at h
   ·exact jH h h8
   ·exact qH parts h h8
theorem qH {ts:Qp}:∀ (l:List Ex) {regs r:List Bs},Xm ts regs l = .ok r->regs.length<=8->r.length<=8
 | [],regs,r,h,h8=>by rw[Xm] at h;cases h;exact h8
 | e::l,regs,r,h,h8=>by
   rw[Xm] at h;split at h
   ·cases h
   ·rename_i r' hr';exact qH l h (zj e hr' h8)
end
theorem US {x:Id × Blk} {σ:Qa} (h:x.1∉σ.keys):Qa.less (x::σ) σ=[x]:=by
 have h0:=Qa.Vm σ;unfold Qa.less at h0 ⊢;rw[List.filter_cons_of_pos (by simpa using h),h0]
theorem kS_keys {i:KIds} {tc:List V} {ts:Qp} {regs:List Bs}:(kS i tc ts regs).keys=[i.c,i.tb,i.mid,i.rid]:=rfl
theorem YV {i:KIds} (hi:i.Ok) {tc:List V} {ts:Qp} {regs:List Bs}:(kS i tc ts regs).keys.Nodup:=by
 rw[kS_keys];simp[hi.n1,hi.n2,hi.n3,hi.n4,hi.n5,hi.n6]
theorem zQ {ts:Qp} {parts:List Ex} {k:Nat} {e:Ex} (h:parts[k]? = some e) (regs:List Bs):Xm ts regs (parts.drop k)=match ZT ts regs e with
 | .error e=>.error e
 | .ok r=>Xm ts r (parts.drop (k+1)):=by
 have hk:k<parts.length:=(gS h).1;have he:parts[k]=e:=(gS h).2;rw[List.drop_eq_getElem_cons hk,Xm,he]<;>cases ZT ts regs e<;>rfl
theorem yI {ts:Qp} {regs:List Bs} {s:Bs} {e:Int} (h:regC ts regs s = .error e):e=2∨e=9:=by
 unfold regC at h;split at h
 ·cases h;exact .inr rfl
 ·split at h
  ·cases h
  ·split at h
   ·cases h;exact .inl rfl
   ·cases h
mutual
theorem vn {ts:Qp}:∀ (e:Ex) {regs:List Bs} {r:Int},ZT ts regs e = .error r->r=2∨r=9
 | .mk op nm name parts,regs,r,h=>by
   rw[ZT] at h;split at h
   ·exact yI h
   ·exact zi parts h
theorem zi {ts:Qp}:∀ (l:List Ex) {regs:List Bs} {r:Int},Xm ts regs l = .error r->r=2∨r=9
 | [],regs,r,h=>by rw[Xm] at h;cases h
 | e::l,regs,r,h=>by
   rw[Xm] at h;split at h
   ·rename_i e' he';cases h;exact vn e he'
   ·exact zi l h
end
theorem Qvq (i:KIds) (hi:i.Ok) (tc:List V) (ts:Qp):∀ (n:Nat) (e:Ex) (regs:List Bs),okE n e->regs.length<=8->
 ADet TC 94 [.ptr i.c 0,Qh e] (kS i tc ts regs) (.ret (.int .i64 (errI (ZT ts regs e)))) (kO i tc ts (ZT ts regs e))
 | 0,.mk op nm name parts,regs,hn,_=>hn.elim
 | n+1,.mk op nm name parts,regs,hn,hr8=>by
   have hrec:=Qvq i hi tc ts n;have hreg:=reg_ok i hi tc ts regs name hr8;refine ent Tryz.func94 fun L K hL hR hN hP=>?_;have hk0:∀ id,id∈(kS i tc ts regs).keys->id.1<L:=hL;simp[Qh];by_cases ho:op=wReg
   ·have hob:(op == [114,101,103])=true:=by rw[ho]<;>rfl
    have hsp:ZT ts regs (.mk op nm name parts)=regC ts regs name:=by rw[ZT,if_pos ho]
    have hreg:ADet TC 96 [.ptr i.c 0,.str (bs name)] (kS i tc ts regs) (.ret (.int .i64 (errI (regC ts regs name)))) (kO i tc ts (regC ts regs name)):=hreg;simp[hob];refine Qe.det hreg ?_ (YV hi) (by decide) rfl (fun v hv=>?_) (fun v hv=>by cases hv)
    ·intro x hx;simp[hx]
    cases hv;rw[US (fun h=>Nat.lt_irrefl _ (hk0 _ h))];simp;refine hR _ ?_;refine .keep [] (kO i tc ts (regC ts regs name)) rfl (by simp;exact fun a b c h=>.inl h) (by simp) ?_ (by simp[Qa.keys]) (.refl _) ⟨by rw[hsp],by rw[hsp]⟩;rcases regC ts regs name with e|r
    ·simp[kO,Qa.keys]
    ·exact YV hi
   ·have hob:(op == [114,101,103])=false:=by rw[Bool.eq_false_iff];intro h;exact ho (by simpa[wReg] using h)
    have hsp:ZT ts regs (.mk op nm name parts)=Xm ts regs parts:=by rw[ZT,if_neg ho]
    simp[hob];refine QB (α:=Nat × List Bs) (fun x=>x.1<=parts.length/\x.2.length<=8/\Xm ts regs parts=Xm ts x.2 (parts.drop x.1)) (fun x=>[(0,.ptr i.c 0),(16,.slice (Qm parts)),(17,.int .i64 parts.length),(18,.int .i64 (x.1:Int))]) (fun x=>kS i tc ts x.2) (fun x=>parts.length - x.1) (0,regs) ⟨by simp,hr8,by simp⟩ (Qb (by simp[Wj]) (by simp;exact fun a b c h=>.inr h) (fun _=>YV hi)) ?_;rintro⟨k,r0⟩ L1 K1 ⟨hk,hr0,heq⟩ hL1 hfr hnext hex hrt - -;simp at hk hr0 heq;have hfr':(L1,0)∉(kS i tc ts r0).keys:=fun h=>hfr _ h rfl;simp;refine Qv.mk (fun hb=>?_) fun hb=>?_
    ·have hk4:k<parts.length:=by simp at hb;omega
     obtain⟨x,hx⟩:=gE hk4;have b1':(0:Int)<=(k:Int):=by omega
     have b2':(k:Int)<parts.length:=by omega
     have hpl:=hn.1;have w1:=wr2 k;have hxs:(Qm parts)[k]? = some (Qh x):=by rw[Wj,List.getElem?_map,hx]<;>rfl
     have hkk:k<(Qm parts).length:=by rw[Wj];simpa using hk4
     have hsz:okE n x:=hn.2 x (List.mem_of_getElem? hx);have hcall:=hrec x r0 hsz hr0;have hdr:=zQ (ts:=ts) hx r0;rw[hdr] at heq;obtain⟨xop,xn,xname,xparts⟩:=x;have hxv:(Qm parts)[k] = .agg [.str (bs xop),.cplx .f64 (fz xn.re) (fz xn.im),.str (bs xname),.slice (Qm xparts)]:=by rw[List.getElem?_eq_getElem hkk] at hxs;exact Option.some.inj hxs
     rw[Qh] at hcall;simp[hkk,hxv,b1'];refine Qe.det hcall ?_ (YV hi) (by decide) rfl (fun v hv=>?_) (fun v hv=>by cases hv)
     ·intro x hx;simp[hx]
     cases hv;rw[US (fun h=>hfr' h)];rcases hE:ZT ts r0 (.mk xop xn xname xparts) with e|r1
     ·have hne:(e != 0)=true:=by rcases vn _ hE with rfl|rfl<;>rfl
      rw[hE] at heq;simp[errI,hne];refine hrt _ ?_;refine hR _ ?_;refine .keep [] [] rfl (by simp) (by simp) (by simp[Qa.keys]) (by simp[Qa.keys]) (.refl _) ⟨by rw[hsp,heq];rfl,by rw[hsp,heq];rfl⟩
     ·have hl1:=zj _ hE hr0;rw[hE] at heq;simp[errI,kO,w1];exact hnext _ (k+1,r1) ⟨by omega,hl1,heq⟩ (by simp;omega) (Qb (by simp) (by simp;exact fun a b c h=>.inl h) (fun _=>YV hi))
    ·have hk4:k=parts.length:=by simp at hb;omega
     subst hk4;rw[List.drop_length,Xm] at heq;simp;refine hex _ _ ?_;simp;refine hR _ ?_;refine .keep [] (kS i tc ts r0) rfl (by simp) (by simp) (YV hi) (by simp[Qa.keys]) (.refl _) ⟨by rw[hsp,heq];rfl,by rw[hsp,heq];rfl⟩
theorem about_ok (i:KIds) (hi:i.Ok) (tc:List V) (ts:Qp) (regs:List Bs) (kind:Int) (reg name:Bs) (ix:Bool) (xs:List Ex) (body els:List St) (place:Int):
 ADet TC 93 [.ptr i.c 0,We (.mk kind reg name ix xs body els place)] (kS i tc ts regs) (.ret (.int .i64 (Yb ts (.mk kind reg name ix xs body els place)))) (kS i tc ts regs):=by
 have hi0:=hi;obtain⟨n1,n2,n3,n4,n5,n6⟩:=hi;refine ADet.down (ex:=[3]) ?_;have hmt:=Zg;have hst9:Qo TC.P 9 = .str:=by kernel_rfl
 refine ent Tryz.func93 fun L K hL hR hN hP=>?_;have hL1:i.c.1<L:=hL i.c (by simp[Qa.keys,kS]);have hL2:i.tb.1<L:=hL i.tb (by simp[Qa.keys,kS]);have hL3:i.mid.1<L:=hL i.mid (by simp[Qa.keys,kS]);have hL4:i.rid.1<L:=hL i.rid (by simp[Qa.keys,kS]);have a1:∀ j:Nat,¬ (L,j)=i.c:=fun j e=>by rw[<- e] at hL1;exact Nat.lt_irrefl _ hL1
 have a2:∀ j:Nat,¬ (L,j)=i.tb:=fun j e=>by rw[<- e] at hL2;exact Nat.lt_irrefl _ hL2
 have a3:∀ j:Nat,¬ (L,j)=i.mid:=fun j e=>by rw[<- e] at hL3;exact Nat.lt_irrefl _ hL3
 have a4:∀ j:Nat,¬ (L,j)=i.rid:=fun j e=>by rw[<- e] at hL4;exact Nat.lt_irrefl _ hL4
 have b1:∀ j:Nat,¬ i.c=(L,j):=fun j e=>a1 j e.symm;have b2:∀ j:Nat,¬ i.tb=(L,j):=fun j e=>a2 j e.symm;have b3:∀ j:Nat,¬ i.mid=(L,j):=fun j e=>a3 j e.symm;have b4:∀ j:Nat,¬ i.rid=(L,j):=fun j e=>a4 j e.symm;obtain⟨c,tb,mid,rid⟩:=i;simp only at n1 n2 n3 n4 n5 n6 a1 a2 a3 a4 b1 b2 b3 b4 hL1 hL2 hL3 hL4;have m1:=n1.symm;have m2:=n2.symm;have m3:=n3.symm;have m4:=n4.symm;have m5:=n5.symm;have m6:=n6.symm;have zst:YS = .agg [.int .i64 0,.int .i64 0,.int .i64 0,.cplx .f64 0 0]:=rfl;simp[We,kS,mblk];have hnm:=Ql.up (ex:=[3]) (Vt kind);refine Qc hnm ?_;have fin:∀ s',Qf (TCe [3]).P s' Tryz.f93.results.toList=some [.int .i64 (Yb ts (.mk kind reg name ix xs body els place))]->(∀ x,x∈kS ⟨c,tb,mid,rid⟩ tc ts regs->x∈s'.σ)->K .ret s':=fun s' h1 h2=>by
  refine hR _ ?_;exact .keep [] (kS ⟨c,tb,mid,rid⟩ tc ts regs) h1 h2 (by simp) (YV hi0) (by simp[Qa.keys]) (.refl _) ⟨rfl,rfl⟩
 rcases hnk:Qz kind
 ·have hab:Yb ts (.mk kind reg name ix xs body els place)=0:=by unfold Yb;show (if Qz kind then _ else _)=_;rw[hnk]<;>rfl
  simp;exact fin _ (by rw[hab];rfl) (by simp[kS,mblk])
 ·simp;refine QJ [(5,15),(5,18),(5,20),(5,19),(5,16),(5,21)] (by kernel_rfl) ?_;have hcel:=Ql.up (ex:=[3]) (yx kind);rcases hlk:ts.lookup name with _|y
  ·have hfn:=ZD ts 0 hlk;have hz0:=jc;have hab:Yb ts (.mk kind reg name ix xs body els place)=8:=by unfold Yb;show (if Qz kind then (match ts.lookup name with|none=>wv|some x=>_) else _)=_;rw[hnk,hlk]<;>rfl
   simp[hmt,hst9,hfn,hz0,zst,a1,a2,a3,n1,n2,n4];refine⟨?_,?_⟩
   ·intro q hq v w hv hw id hid;simp at hq;rcases hq with rfl|rfl|rfl|rfl|rfl|rfl<;>(try simp at hv hw)<;>(try subst hv)<;>(try subst hw)<;>(try (simp[Qq] at hid ⊢))<;>(try simp[hid,a1,a2,a3])
   ·exact fin _ (by rw[hab];rfl) (by simp[kS,mblk])
  ·obtain⟨kx,hk1,_,hk3⟩:=Yv ts 0 hlk;have hvk:(Wv ts)[kx]? = some (Wa y):=by unfold Wv;rw[List.getElem?_map,hk1]<;>rfl
   simp at hk3;have hab:Yb ts (.mk kind reg name ix xs body els place)=if y.sort=uw kind ix then 0 else 9:=by unfold Yb;show (if Qz kind then (match ts.lookup name with|none=>wv|some x=>if x.sort=uw kind ix then _ else _) else _)=_;rw[hnk,hlk]<;>rfl
   simp[hmt,hst9,hk3,hvk,Wa,Qu,a1,a2,a3,n1,n2,n4];refine⟨?_,?_⟩
   ·intro q hq v w hv hw id hid;simp at hq;rcases hq with rfl|rfl|rfl|rfl|rfl|rfl<;>(try simp at hv hw)<;>(try subst hv)<;>(try subst hw)<;>(try (simp[Qq] at hid ⊢))<;>(try simp[hid,a1,a2,a3])
   ·refine Qc hcel ?_;have ends:∀ w:Int,uw kind ix=w->Yb ts (.mk kind reg name ix xs body els place)=if (y.sort != w)=true then 9 else 0:=fun w hw=>by
     rw[hab,hw];by_cases h:y.sort=w<;>simp[h]
    unfold uw at ends;rcases hce:Xt kind
    ·rw[hce] at ends hcel;simp;refine Qc hcel ?_;by_cases h8:(kind:Int)<=8
     ·simp[h8];have hab2:=ends 2 (by simp[h8]);refine Qv.mk (fun hb=>?_) fun hb=>?_
      ·rw[if_pos hb] at hab2;simp;exact fin _ (by rw[hab2];rfl) (by simp[kS,mblk])
      ·rw[if_neg (by rw[hb];simp)] at hab2;simp;exact fin _ (by rw[hab2];rfl) (by simp[kS,mblk])
     ·by_cases h10:(kind:Int)<=10
      ·simp[h8,h10];have hab2:=ends 3 (by simp[h8,h10]);refine Qv.mk (fun hb=>?_) fun hb=>?_
       ·rw[if_pos hb] at hab2;simp;exact fin _ (by rw[hab2];rfl) (by simp[kS,mblk])
       ·rw[if_neg (by rw[hb];simp)] at hab2;simp;exact fin _ (by rw[hab2];rfl) (by simp[kS,mblk])
      ·simp[h8,h10];have hab2:=ends 5 (by simp[h8,h10]);refine Qv.mk (fun hb=>?_) fun hb=>?_
       ·rw[if_pos hb] at hab2;simp;exact fin _ (by rw[hab2];rfl) (by simp[kS,mblk])
       ·rw[if_neg (by rw[hb];simp)] at hab2;simp;exact fin _ (by rw[hab2];rfl) (by simp[kS,mblk])
    ·rw[hce] at ends hcel;rcases ix
     ·simp;refine Qc hcel ?_;simp;have hab2:=ends 0 (by simp);refine Qv.mk (fun hb=>?_) fun hb=>?_
      ·rw[if_pos hb] at hab2;simp;exact fin _ (by rw[hab2];rfl) (by simp[kS,mblk])
      ·rw[if_neg (by rw[hb];simp)] at hab2;simp;exact fin _ (by rw[hab2];rfl) (by simp[kS,mblk])
     ·simp;have hab2:=ends 1 (by simp);refine Qv.mk (fun hb=>?_) fun hb=>?_
      ·rw[if_pos hb] at hab2;simp;exact fin _ (by rw[hab2];rfl) (by simp[kS,mblk])
      ·rw[if_neg (by rw[hb];simp)] at hab2;simp;exact fin _ (by rw[hab2];rfl) (by simp[kS,mblk])
end Go.Awp.R1
