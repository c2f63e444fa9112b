/- Words, kinds, lists of words, depths. -/
import Derived.Test.YtnielafbkgpgjaaGreatDoorX17
import Derived.Test.YtnielafbkgpgjaaGreatDoorX18
set_option linter.all false
set_option maxRecDepth 100000
set_option maxHeartbeats 8000000
namespace Go.Awp.R1
open Go Go.Awp Go.Proofs Go.Awp.Sp
theorem Vt (k:Int):Ql TC 51 [.int .i64 k] (.bool (Qz k)):=by
 refine ent Tryz.func51 fun L K hL hR hN hP=>?_;simp;by_cases h1:0<k
 ·simp[h1];exact hR _ (.pure rfl (by simp[Qz,h1];exact .refl _))
 ·simp[h1];exact hR _ (.pure rfl (by simp[Qz,h1];exact .refl _))
theorem yx (k:Int):Ql TC 137 [.int .i64 k] (.bool (Xt k)):=by
 refine ent Tryz.func137 fun L K hL hR hN hP=>?_;simp;by_cases h1:0<k
 ·simp[h1];exact hR _ (.pure rfl (by simp[Xt,h1];exact .refl _))
 ·simp[h1];exact hR _ (.pure rfl (by simp[Xt,h1];exact .refl _))
theorem wJ (k:Int):Ql TC 95 [.int .i64 k] (.bool (Wh k)):=by
 refine ent Tryz.func95 fun L K hL hR hN hP=>?_;simp;by_cases h1:k<=1
 ·simp[h1];exact hR _ (.pure rfl (by simp[Wh,h1];exact .refl _))
 ·by_cases h2:3<=k
  ·by_cases h3:k<=5
   ·simp[h1,h2,h3];exact hR _ (.pure rfl (by simp[Wh,h1,h2,h3];exact .refl _))
   ·simp[h1,h2,h3];exact hR _ (.pure rfl (by simp[Wh,h1,h2,h3];exact .refl _))
  ·simp[h1,h2];exact hR _ (.pure rfl (by simp[Wh,h1,h2];exact .refl _))
def jM (ws:List Bs) (s:Bs) (k:Nat):Prop:=∀ j,j<k->ws.getD j []≠s
theorem wU {ws:List Bs} {s:Bs} (h:jM ws s ws.length):ws.contains s=false:=by
 rw[Bool.eq_false_iff];intro hc;obtain⟨i,hi,he⟩:=List.getElem_of_mem (List.contains_iff_mem.1 hc);refine h i hi ?_;rw[List.getD_eq_getElem?_getD,List.getElem?_eq_getElem hi];exact he
theorem qB {ws:List Bs} {s:Bs} {k:Nat} (h:jM ws s k) (h1:ws.getD k []≠s):jM ws s (k+1):=fun j hj=>by
 by_cases e:j=k
 ·rw[e];exact h1
 ·exact h j (by omega)
theorem someB {ws:List Bs} {s:Bs} {k:Nat} (hk:k<ws.length) (h1:ws.getD k []=s):ws.contains s=true:=by
 rw[List.contains_iff_mem,<- h1,List.getD_eq_getElem?_getD,List.getElem?_eq_getElem hk];exact List.getElem_mem hk
theorem Qow (s:Bs):Ql TC 134 [encS s] (.bool (Wl s)):=by
 refine ent Tryz.func134 fun L K hL hR hN hP=>?_;simp;refine QB (α:=Nat) (fun k=>k<=17/\jM Qy s k) (fun k=>[(0,encS s),(5,.int .i64 (k:Int))]) (fun _=>[]) (fun k=>17 - k) 0 ⟨by omega,fun j hj=>by omega⟩ twk ?_;rintro k L1 K1 ⟨hk,hnone⟩ hL1 - hnext hex hrt - -;simp;refine Qv.mk (fun hb=>?_) fun hb=>?_
 ·have hk17:k<17:=by simp at hb;omega
  simp;refine Qc (Word_ok k hk17) ?_;rcases hq:(Qy[k]?.getD [] == s)
  ·have he:Qy.getD k []≠s:=by simpa[List.getD_eq_getElem?_getD] using hq
   have w1:=wr2 k;simp[hq,w1];exact hnext _ (k+1) ⟨by omega,qB hnone he⟩ (by omega) twk
  ·have he:Qy.getD k []=s:=by simpa[List.getD_eq_getElem?_getD] using hq
   simp[hq];exact hrt _ (hR _ (.pure rfl (by rw[show Wl s=true by simp only[Wl,someB (ws:=Qy) hk17 he,Bool.true_or]];exact .refl _)))
 ·have hk17:k=17:=by simp at hb;omega
  subst hk17;have hkw:Qy.contains s=false:=wU hnone;refine hex _ _ ?_;simp;refine QB (α:=Nat) (fun k=>k<=6/\jM QW s k) (fun k=>[(0,encS s),(13,.int .i64 (k:Int))]) (fun _=>[]) (fun k=>6 - k) 0 ⟨by omega,fun j hj=>by omega⟩ twk ?_;rintro k L2 K2 ⟨hk,hnone2⟩ hL2 - hnext2 hex2 hrt2 - -;simp;refine Qv.mk (fun hb=>?_) fun hb=>?_
  ·have hk6:k<6:=by simp at hb;omega
   simp;refine Qc (QJz k hk6) ?_;rcases hq:(QW[k]?.getD [] == s)
   ·have he:QW.getD k []≠s:=by simpa[List.getD_eq_getElem?_getD] using hq
    have w1:=wr2 k;simp[hq,w1];exact hnext2 _ (k+1) ⟨by omega,qB hnone2 he⟩ (by omega) twk
   ·have he:QW.getD k []=s:=by simpa[List.getD_eq_getElem?_getD] using hq
    simp[hq];exact hrt2 _ (hR _ (.pure rfl (by rw[show Wl s=true by simp only[Wl,someB (ws:=QW) hk6 he,Bool.true_or,Bool.or_true]];exact .refl _)))
  ·have hk6:k=6:=by simp at hb;omega
   subst hk6;have hsw:QW.contains s=false:=wU hnone2;refine hex2 _ _ ?_;simp;exact hR _ (.pure rfl (by rw[show Wl s=(s == YW) by simp only[Wl,hkw,hsw,Bool.false_or]];exact .refl _))
theorem Qyz:∀ (ws:List Bs) (s:Bs) (k:Nat),jM ws s k->ws[k]? = some s->ws.idxOf s=k
 | [],s,k,_,h=>by simp at h
 | w::ws,s,0,_,h=>by
   have:w=s:=by simpa using h
   subst this;simp
 | w::ws,s,k+1,hn,h=>by
   have h0:w≠s:=by have:=hn 0 (by omega);simpa using this
   have ih:=Qyz ws s k (fun j hj=>by have:=hn (j+1) (by omega);simpa using this) (by simpa using h);rw[List.idxOf_cons,show (w == s)=false by simpa using h0];simp[ih]
theorem QMq (ws:List Bs) (s:Bs) (hl:ws.length<=1000000):Ql TC 115 [.slice (ws.map encS),encS s] (.int .i64 (if ws.contains s=true then (ws.idxOf s:Nat) else -1)):=by
 refine ent Tryz.func115 fun L K hL hR hN hP=>?_;simp;refine QB (α:=Nat) (fun k=>k<=ws.length/\jM ws s k) (fun k=>[(0,.slice (ws.map encS)),(1,encS s),(7,.int .i64 ws.length),(8,.int .i64 (k:Int))]) (fun _=>[]) (fun k=>ws.length - k) 0 ⟨by omega,fun j hj=>by omega⟩ twk ?_;rintro k L1 K1 ⟨hk,hnone⟩ hL1 - hnext hex hrt - -;simp;refine Qv.mk (fun hb=>?_) fun hb=>?_
 ·have hkl:k<ws.length:=by simpa using hb
  have hx:ws[k]? = some ws[k]:=List.getElem?_eq_getElem hkl;generalize ws[k]=x at hx;have hg:ws.getD k []=x:=by rw[List.getD_eq_getElem?_getD,hx];rfl
  simp[hx,encS];rcases hq:(s == x)
  ·have he:ws.getD k []≠s:=by rw[hg];exact fun e=>by subst e;simp at hq
   have w1:=wr2 k;simp[w1];exact hnext _ (k+1) ⟨by omega,qB hnone he⟩ (by omega) twk
  ·have he:x=s:=by have:=eq_of_beq hq;exact this.symm
   subst he;simp;refine hrt _ (hR _ (.pure rfl ?_));rw[if_pos (someB (k:=k) hkl hg),Qyz ws x k hnone hx];exact .refl _
 ·have hkl:k=ws.length:=by simp at hb;omega
  subst hkl;refine hex _ _ ?_;simp;refine hR _ (.pure rfl ?_);rw[if_neg (by rw[wU hnone];simp)];exact .refl _
theorem UH (ws:List Bs) (s:Bs) (hl:ws.length<=1000000):Ql TC 75 [.slice (ws.map encS),encS s] (.bool (ws.contains s)):=by
 refine ent Tryz.func75 fun L K hL hR hN hP=>?_;simp;refine Qc (QMq ws s hl) ?_;rcases hc:ws.contains s
 ·simp;exact hR _ (.pure rfl (by rw[hc];exact .refl _))
 ·simp;exact hR _ (.pure rfl (by rw[hc];exact .refl _))
mutual
def Qh:Ex->V
 | .mk op num name parts=>.agg [.str (bs op),.cplx .f64 (fz num.re) (fz num.im),.str (bs name),.slice (Qm parts)]
def Qm:List Ex->List V
 | []=>[]
 | e::r=>Qh e::Qm r
end
theorem Wj (l:List Ex):Qm l=l.map Qh:=by
 induction l with
 | nil=>rfl
 | cons e r ih=>rw[Qm,ih];rfl
def okE:Nat->Ex->Prop
 | 0,_=>False
 | n+1,.mk _ _ _ ps=>ps.length<=2/\∀ p∈ps,okE n p
theorem vq (l:List Ex) (e:Ex):Xv (l++[e])=max (Xv l) (WA e):=by
 induction l with
 | nil=>simp[Xv]
 | cons x l ih=>rw[List.cons_append,Xv,Xv,ih];omega
theorem Jo:∀ (n:Nat) (e:Ex),okE n e->WA e<=n
 | 0,_,h=>h.elim
 | n+1,.mk _ _ _ ps,h=>by
   have:∀ l:List Ex,(∀ p∈l,okE n p)->Xv l<=n:=fun l=>by
    induction l with
    | nil=>intro _;simp[Xv]
    | cons x l ih=>
      intro hl;have h1:=Jo n x (hl x (by simp));have h2:=ih fun p hp=>hl p (by simp[hp]);rw[Xv];omega
   have:=this ps h.2;rw[WA];omega
theorem QMz:∀ (n:Nat) (e:Ex),n<=1000000->okE n e->Ql TC 179 [Qh e] (.int .i64 (WA e:Nat))
 | 0,_,_,h=>h.elim
 | n+1,.mk op num name ps,hn,h=>by
   have ih:=fun e he=>QMz n e (by omega) he;obtain⟨hlen,hall⟩:=h;have hd:=Jo (n+1) (.mk op num name ps) ⟨hlen,hall⟩;rw[WA] at hd;have hm:Qm ps=ps.map Qh:=Wj ps;refine ent Tryz.func179 fun L K hL hR hN hP=>?_;simp[Qh,hm];refine QB (α:=Nat) (fun k=>k<=ps.length) (fun k=>[(3,.int .i64 (Xv (ps.take k):Nat)),(7,.slice (ps.map Qh)),(8,.int .i64 ps.length),(9,.int .i64 (k:Int))]) (fun _=>[]) (fun k=>ps.length - k) 0 (by simp) (Qb (by simp[Xv]) (by simp) (by simp)) ?_;rintro k L1 K1 hk hL1 - hnext hex hrt - -;simp;refine Qv.mk (fun hb=>?_) fun hb=>?_
   ·have hkl:k<ps.length:=by simpa using hb
    have hx:ps[k]? = some ps[k]:=List.getElem?_eq_getElem hkl;have hmem:ps[k]∈ps:=List.getElem_mem hkl;generalize ps[k]=e at hx hmem;have hcall:=ih e (hall e hmem);have hed:=Jo n e (hall e hmem);have htk:Xv (ps.take (k+1))=max (Xv (ps.take k)) (WA e):=by
     rw[List.take_add_one,hx];exact vq _ _
    have w1:=wr2 k;obtain⟨op',num',name',ps'⟩:=e;simp[hx,Qh];refine Qc hcall ?_;simp[w1];refine hnext _ (k+1) (by omega) (by omega) (Qb (by simp[htk];split<;>omega) (by simp) (by simp))
   ·have hkl:k=ps.length:=by simp at hb;omega
    subst hkl;refine hex _ _ ?_;have w2:=wr1 (Xv ps) (by omega);simp[w2];exact hR _ (.pure rfl (.refl _))
def nilV:V->Option V
 | .rptr v=>some (.rptr v)
 | .ptr i o=>some (.ptr i o)
 | .eptr i v z k o=>some (.eptr i v z k o)
 | .func (.func f) a b=>some (.func (.func f) a b)
 | _=>none
@[simp] theorem nilV_ptr {i:Id} {o:Nat}:nilV (.ptr i o)=some (.ptr i o):=rfl
@[simp] theorem pureOp_nilCheck {P:Program} {lk:Operand->Option V} {x:Operand}:QY P lk (.nilCheck x)=(lk x).bind nilV:=by
 unfold QY;rfl
@[simp] theorem pureOp_mkIface {P:Program} {lk:Operand->Option V} {t:TypeId} {x:Operand}:QY P lk (.makeInterface t x)=if Qo P t = .iface∨Qo P t = .other then none else (lk x).map (.iface t):=rfl
def TokL:List Tok->Prop
 | []=>False
 | t::r=>(t.kind=0/\r=[])∨((t.kind=1∨t.kind=2∨t.kind=3)/\TokL r)
theorem TokL.cons {l:List Tok} (h:TokL l):∃ t r,l=t::r/\hd l=t/\((t.kind=0/\r=[])∨((t.kind=1∨t.kind=2∨t.kind=3)/\TokL r)):=by
 cases l with
 | nil=>exact h.elim
 | cons t r=>exact⟨t,r,rfl,rfl,h⟩
theorem TokL.tail {l:List Tok} (h:TokL l) (h0:(hd l).kind≠0):TokL l.tail:=by
 obtain⟨t,r,rfl,h1,h2⟩:=h.cons;rcases h2 with h2|h2
 ·rw[h1] at h0;exact absurd h2.1 h0
 ·exact h2.2
def pblk (l:List Tok) (deep:Int):Blk:=.cells 139 [.slice (l.map Qg),.int .i64 deep]
def Zo (e:Er):V:=.iface 135 (.agg [.int .i64 e.1,.int .i64 e.2])
def outP {α:Type} (enc:α->V):PR α->AOut
 | .ok (a,_)=>.ret (enc a)
 | .error e=>.pan (Zo e)
def stP {α:Type} (p:Id) (deep:Int):PR α->Qa
 | .ok (_,l)=>[(p,pblk l deep)]
 | .error _=>[]
def APar {α:Type} (f:FuncId) (args:List V) (l:List Tok) (enc:α->V) (r:PR α):Prop:=
 ∀ (p:Id) (deep:Int),ADet TC f (.ptr p 0::args) [(p,pblk l deep)] (outP enc r) (stP p deep r)
theorem YP (l:List Tok) (hl:TokL l) (e:Int):APar 87 [.int .i64 e] l (fun _:Unit=>.tup []) (.error ((hd l).place,e)):=by
 intro p deep;obtain⟨t,r,rfl,ht,_⟩:=hl.cons;refine ent Tryz.func87 fun L K hL hR hN hP=>?_;simp[pblk,Qg];exact hP _ _ _ [] [] (by simp) (by simp) (by simp[Qa.keys]) (by simp[Qa.keys]) (.refl _) ⟨by rw[ht];rfl,rfl⟩
theorem Ub (l:List Tok) (hl:TokL l) (s:Bs):APar 85 [encS s] l (fun b:Bool=>.bool b) (.ok ((hd l).isB s,if (hd l).isB s=true then l.tail else l)):=by
 intro p deep;obtain⟨t,r,rfl,ht,hk⟩:=hl.cons;refine ent Tryz.func85 fun L K hL hR hN hP=>?_;simp[pblk,Qg];have htk:(r.map Qg).take r.length=r.map Qg:=List.take_of_length_le (by simp);have yes:t.isB s=true->∀ s',Qf TC.P s' [.tmp 4]=some [.bool true]->(p,pblk r deep)∈s'.σ->K .ret s':=fun h1 s' h2 h3=>
  hR s' (.keep [] [(p,pblk r deep)] h2 (by simpa using h3) (by simp) (by simp[Qa.keys]) (by simp[Qa.keys]) (.refl _) ⟨by rw[ht,h1];rfl,by rw[ht,h1];rfl⟩)
 have no:t.isB s=false->∀ s',Qf TC.P s' [.tmp 4]=some [.bool false]->(p,pblk (t::r) deep)∈s'.σ->K .ret s':=fun h1 s' h2 h3=>
  hR s' (.keep [] [(p,pblk (t::r) deep)] h2 (by simpa using h3) (by simp) (by simp[Qa.keys]) (by simp[Qa.keys]) (.refl _) ⟨by rw[ht,h1];rfl,by rw[ht,h1];rfl⟩)
 rcases k0:(t.kind == 0)
 ·have n0:¬ t.kind=0:=by simpa using k0
  simp;rcases k2:(t.kind == 2)
  ·have n2:¬ t.kind=2:=by simpa using k2
   have hk13:(t.kind == 1||t.kind == 3)=true:=by
    rcases hk with hk|⟨hk|hk|hk,_⟩
    ·exact absurd hk.1 n0
    ·simp[hk]
    ·exact absurd hk n2
    ·simp[hk]
   simp;rcases ks:(t.text == s)
   ·simp;exact no (by simp only[Tok.isB,ks,Bool.and_false]) _ rfl (by simp[pblk,Qg])
   ·simp[Qg,htk];exact yes (by simp only[Tok.isB,ks,hk13,Bool.and_true]) _ rfl (by simp[pblk])
  ·have h2:t.kind=2:=by simpa using k2
   simp;exact no (by simp[Tok.isB,h2]) _ rfl (by simp[pblk,Qg])
 ·have h0:t.kind=0:=by simpa using k0
  simp;exact no (by simp[Tok.isB,h0]) _ rfl (by simp[pblk,Qg])
section
variable {C:Ctx} {K:QH->ASt->Prop} {st:List Fr} {n:Nat} {ops:Array Oper} {r:List Oper} {τ:List (Nat × V)} {σ:Qa} {N lv nx:Nat}
theorem _root_.Go.Awp.Qe.det {f:FuncId} {args:List V} {t:Nat} {σi σo:Qa} {out:AOut} (h:ADet C f args σi out σo) (hs:∀ x,x∈σi->x∈σ) (hn:σi.keys.Nodup) (ht:t<N) (hq:quiet st=false)
 (hk:∀ v,out = .ret v->go C n (.ops ops r) st K ⟨(t,v)::τ,σo++σ.less σi,N,lv,nx⟩)
 (hp:∀ v,out = .pan v->K (.panic v) ⟨τ,σo++σ.less σi,N,lv,nx⟩):Qe C n f args (some t) ops r st K ⟨τ,σ,N,lv,nx⟩:=by
 refine Qe.gen h hs hn ht hq ?_ ?_
 ·rintro L v σ' _ _ ⟨e,rfl⟩;exact hk v e.symm
 ·rintro L v σ' _ _ ⟨e,rfl⟩;exact hp v e.symm
end
theorem Xy (l:List Tok) (hl:TokL l) (s:Bs):APar 91 [encS s] l (fun _:Unit=>.tup []) (QZ s l):=by
 intro p deep;refine ent Tryz.func91 fun L K hL hR hN hP=>?_;simp;refine Qe.det (Ub l hl s p deep) ?_ (by simp[Qa.keys]) (by decide) rfl (fun v hv=>?_) (fun v hv=>by simp[outP] at hv)
 ·simp
 cases hv;rcases hb:(hd l).isB s
 ·simp[stP];refine Qe.det (YP l hl 1 p deep) ?_ (by simp[Qa.keys]) (by decide) rfl (fun v hv=>by simp[outP] at hv) (fun v hv=>?_)
  ·simp
  cases hv;exact hP _ _ _ [] [] (by simp) (by simp) (by simp[Qa.keys]) (by simp[Qa.keys]) (.refl _) ⟨by simp[QZ,hb,outP,WE],by simp[QZ,hb,stP]⟩
 ·simp[stP];exact hN _ (.keeps (vs:=[]) [] [(p,pblk l.tail deep)] rfl (by simp) (by simp) (by simp) (by simp[Qa.keys]) (by simp[Qa.keys]) (.refl _) ⟨by simp[QZ,hb,outP],by simp[QZ,hb,stP]⟩)
theorem JS (l:List Tok) (hl:TokL l):APar 88 [] l (fun s:Bs=>.str (bs s)) (WI l):=by
 intro p deep;obtain⟨t,r,rfl,ht,hk⟩:=hl.cons;have htk:(r.map Qg).take r.length=r.map Qg:=List.take_of_length_le (by simp);refine ent Tryz.func88 fun L K hL hR hN hP=>?_;simp[pblk,Qg];rcases k1:(t.kind != 1)
 ·have hk1:t.kind=1:=by simpa using k1
  simp;refine Qc (Qow t.text) ?_;rcases hres:Wl t.text
  ·have hpL:p.1<L:=hL p (by simp[Qa.keys]);have ne1:¬ (L,0)=p:=fun e=>by rw[<- e] at hpL;exact Nat.lt_irrefl _ hpL
   have ne2:¬ p=(L,0):=fun e=>ne1 e.symm;simp[Qg,htk,ne1];refine hR _ (.keep [] [(p,pblk r deep)] rfl (by simp[pblk]) (by simp) (by simp[Qa.keys]) (by simp[Qa.keys]) (.refl _) ?_);have:WI (t::r) = .ok (t.text,r):=by
    unfold WI;rw[if_pos ⟨by rw[ht];exact hk1,by rw[ht];exact hres⟩,ht];rfl
   rw[this];exact⟨rfl,rfl⟩
  ·simp;refine Qe.det (YP (t::r) hl 1 p deep) ?_ (by simp[Qa.keys]) (by decide) rfl (fun v hv=>by simp[outP] at hv) (fun v hv=>?_)
   ·simp[pblk,Qg]
   cases hv;have:WI (t::r) = .error (t.place,1):=by
    unfold WI;rw[if_neg (fun h=>by rw[ht,hres] at h;exact absurd h.2 (by simp)),ht];rfl
   rw[this] at hP;exact hP _ _ _ [] [] (by simp) (by simp) (by simp[Qa.keys]) (by simp[Qa.keys]) (.refl _) ⟨by rw[ht];rfl,rfl⟩
 ·have hk1:¬ t.kind=1:=by simpa using k1
  simp;refine Qe.det (YP (t::r) hl 1 p deep) ?_ (by simp[Qa.keys]) (by decide) rfl (fun v hv=>by simp[outP] at hv) (fun v hv=>?_)
  ·simp[pblk,Qg]
  cases hv;have:WI (t::r) = .error (t.place,1):=by
   unfold WI;rw[if_neg (fun h=>by rw[ht] at h;exact hk1 h.1),ht];rfl
  rw[this] at hP;exact hP _ _ _ [] [] (by simp) (by simp) (by simp[Qa.keys]) (by simp[Qa.keys]) (.refl _) ⟨by rw[ht];rfl,rfl⟩
theorem uQ {t:Tok} {k:Nat} (h1:1<=k) (h2:k<17) (hn:∀ j,1<=j->j<k->t.isB (Qy.getD j [])=false) (hb:t.isB (Qy.getD k [])=true):kindOf t=k:=by
 unfold kindOf;have:(List.range 17).find? (fun k=>k != 0&&t.isB (Qy.getD k []))=some k:=by
  rw[List.find?_range_eq_some];refine⟨by rw[hb];simp;omega,List.mem_range.2 h2,fun j hj=>?_⟩;by_cases h0:j=0
  ·subst h0;rfl
  ·rw[hn j (by omega) hj];simp
 rw[this];rfl
theorem zJ {t:Tok} (hn:∀ j,1<=j->j<17->t.isB (Qy.getD j [])=false):kindOf t=0:=by
 unfold kindOf;have:(List.range 17).find? (fun k=>k != 0&&t.isB (Qy.getD k []))=none:=by
  rw[List.find?_range_eq_none];intro j hj;by_cases h0:j=0
  ·subst h0;rfl
  ·rw[hn j (by omega) hj];simp
 rw[this];rfl
theorem kind_ok (l:List Tok) (hl:TokL l):APar 162 [.int .i64 1,.int .i64 17] l (fun k:Nat=>.int .i64 (k:Nat)) (.ok (kindOf (hd l),if kindOf (hd l)=0 then l else l.tail)):=by
 intro p deep;refine ent Tryz.func162 fun L K hL hR hN hP=>?_;simp;refine QB (α:=Nat) (fun k=>1<=k/\k<=17/\∀ j,1<=j->j<k->(hd l).isB (Qy.getD j [])=false) (fun k=>[(0,.ptr p 0),(2,.int .i64 17),(7,.int .i64 (k:Int))]) (fun _=>[(p,pblk l deep)]) (fun k=>17 - k) 1 ⟨by omega,by omega,fun j h1 h2=>by omega⟩ twk ?_;rintro k L1 K1 ⟨hk1,hk,hnone⟩ hL1 - hnext hex hrt - hpn;simp;refine Qv.mk (fun hb=>?_) fun hb=>?_
 ·have hk17:k<17:=by simp at hb;omega
  simp;refine Qc (Word_ok k hk17) ?_;simp;refine Qe.det (Ub l hl (Qy.getD k []) p deep) ?_ (by simp[Qa.keys]) (by decide) rfl (fun v hv=>?_) (fun v hv=>by simp[outP] at hv)
  ·simp
  cases hv;rcases hb:(hd l).isB (Qy.getD k [])
  ·have w1:=wr2 k;simp[stP,w1];exact hnext _ (k+1) ⟨by omega,by omega,fun j h1 h2=>by
    by_cases e:j=k
    ·rw[e];exact hb
    ·exact hnone j h1 (by omega)⟩ (by omega) twk
  ·simp[stP];have hko:kindOf (hd l)=k:=uQ hk1 hk17 hnone hb;refine hrt _ (hR _ (.keep [] [(p,pblk l.tail deep)] rfl (by simp) (by simp) (by simp[Qa.keys]) (by simp[Qa.keys]) (.refl _) ?_));have hk0:¬ kindOf (hd l)=0:=by omega
   exact⟨by simp only[outP,hko],by simp only[stP,if_neg hk0]⟩
 ·have hk17:k=17:=by simp at hb;omega
  subst hk17;refine hex _ _ ?_;simp;have hko:kindOf (hd l)=0:=zJ fun j h1 h2=>hnone j h1 h2;refine hR _ (.keep [] [(p,pblk l deep)] rfl (by simp) (by simp) (by simp[Qa.keys]) (by simp[Qa.keys]) (.refl _) ?_);exact⟨by simp only[outP,hko];rfl,by simp only[stP,if_pos hko]⟩
def anyR (ws:List Bs) (l:List Tok):PR Bs:=match Zp (hd l) ws with
 | some w=>.ok (w,l.tail)
 | none=>.ok ([],l)
theorem QIw {t:Tok} {ws:List Bs} {k:Nat} {w:Bs} (hn:∀ j,j<k->t.isB (ws.getD j [])=false) (hw:ws[k]? = some w) (hb:t.isB w=true):Zp t ws=some w:=by
 unfold Zp
 induction ws generalizing k with
 | nil=>simp at hw
 | cons x ws ih=>
   cases k with
   | zero=>
     have:x=w:=by simpa using hw
     subst this;rw[List.find?_cons_of_pos hb]
   | succ k=>
     have h0:t.isB x=false:=by have:=hn 0 (by omega);simpa using this
     rw[List.find?_cons_of_neg (by rw[h0];simp)];exact ih (k:=k) (fun j hj=>by have:=hn (j+1) (by omega);simpa using this) (by simpa using hw)
theorem vH {t:Tok} {ws:List Bs} (hn:∀ j,j<ws.length->t.isB (ws.getD j [])=false):Zp t ws=none:=by
 unfold Zp;rw[List.find?_eq_none];intro x hx;obtain⟨i,hi,he⟩:=List.getElem_of_mem hx;have:=hn i hi;rw[List.getD_eq_getElem?_getD,List.getElem?_eq_getElem hi] at this;rw[<- he];simpa using this
theorem any_ok (l:List Tok) (hl:TokL l) (ws:List Bs) (hw:ws.length<=1000):APar 198 [.slice (ws.map encS)] l (fun s:Bs=>.str (bs s)) (anyR ws l):=by
 intro p deep;refine ent Tryz.func198 fun L K hL hR hN hP=>?_;simp;refine QB (α:=Nat) (fun k=>k<=ws.length/\∀ j,j<k->(hd l).isB (ws.getD j [])=false) (fun k=>[(0,.ptr p 0),(7,.slice (ws.map encS)),(8,.int .i64 ws.length),(9,.int .i64 (k:Int))]) (fun _=>[(p,pblk l deep)]) (fun k=>ws.length - k) 0 ⟨by omega,fun j h2=>by omega⟩ twk ?_;rintro k L1 K1 ⟨hk,hnone⟩ hL1 - hnext hex hrt - hpn;simp;refine Qv.mk (fun hb=>?_) fun hb=>?_
 ·have hkl:k<ws.length:=by simpa using hb
  have hx:ws[k]? = some ws[k]:=List.getElem?_eq_getElem hkl;generalize ws[k]=w at hx;have hg:ws.getD k []=w:=by rw[List.getD_eq_getElem?_getD,hx];rfl
  simp[hx,encS];refine Qe.det (Ub l hl w p deep) ?_ (by simp[Qa.keys]) (by decide) rfl (fun v hv=>?_) (fun v hv=>by simp[outP] at hv)
  ·simp
  cases hv;rcases hb:(hd l).isB w
  ·have w1:=wr2 k;simp[stP,w1];exact hnext _ (k+1) ⟨by omega,fun j h2=>by
    by_cases e:j=k
    ·rw[e,hg];exact hb
    ·exact hnone j (by omega)⟩ (by omega) twk
  ·simp[stP];have ha:anyR ws l = .ok (w,l.tail):=by unfold anyR;rw[QIw hnone hx hb]
   rw[ha] at hR;exact hrt _ (hR _ (.keep [] [(p,pblk l.tail deep)] rfl (by simp) (by simp) (by simp[Qa.keys]) (by simp[Qa.keys]) (.refl _) ⟨rfl,rfl⟩))
 ·have hkl:k=ws.length:=by simp at hb;omega
  subst hkl;refine hex _ _ ?_;simp;have ha:anyR ws l = .ok ([],l):=by unfold anyR;rw[vH hnone]
  rw[ha] at hR;exact hR _ (.keep [] [(p,pblk l deep)] rfl (by simp) (by simp) (by simp[Qa.keys]) (by simp[Qa.keys]) (.refl _) ⟨rfl,rfl⟩)
noncomputable def TCe (ex:List Nat):Ctx:={ TC with ex:=ex }
@[simp] theorem TCe_P {ex:List Nat}:(TCe ex).P=TC.P:=rfl
@[simp] theorem TCe_G {ex:List Nat}:(TCe ex).G=TC.G:=rfl
@[simp] theorem TCe_own {ex:List Nat}:(TCe ex).own=TC.own:=rfl
@[simp] theorem TCe_ex {ex:List Nat}:(TCe ex).ex=ex:=rfl
theorem ADet.up {ex:List Nat} {f:FuncId} {args:List V} {σi σo:Qa} {o:AOut} (h:ADet TC f args σi o σo):ADet (TCe ex) f args σi o σo:=AFn.ctx (C:=TC) (C':=TCe ex) rfl rfl h
theorem ADet.down {ex:List Nat} {f:FuncId} {args:List V} {σi σo:Qa} {o:AOut} (h:ADet (TCe ex) f args σi o σo):ADet TC f args σi o σo:=AFn.ctx (C:=TCe ex) (C':=TC) rfl rfl h
def okR {α:Type} (r:PR α):Prop:=∀ q:Int,r≠.error (q,-1)
def Yd:List (Bs × Bs):=[([45],wNeg),([126],wConj),([33],wNot),([35],wNorm)]
theorem qx {l:List Oper}:∀ pp,((List.range' 0 pp).filterMap fun i=>l.toArray[i]?)=l.take pp
 | 0=>rfl
 | n+1=>by
   rw[List.range'_concat,List.filterMap_append,qx n,List.take_add_one];congr 1;simp only[List.filterMap_cons,List.filterMap_nil,List.getElem?_toArray,Nat.zero_add,Nat.one_mul];cases l[n]?<;>rfl
theorem jJ {l:List Oper}:∀ m k,k+m=l.length->((List.range' k m).filterMap fun i=>l.toArray[i]?)=l.drop k
 | 0,k,h=>by rw[List.drop_eq_nil_of_le (by omega)];rfl
 | m+1,k,h=>by
   have hk:k<l.length:=by omega
   rw[List.range'_succ,List.filterMap_cons,List.getElem?_toArray,List.getElem?_eq_getElem hk,List.drop_eq_getElem_cons hk];simp only;rw[jJ m (k+1) (by omega)]
section
variable {C:Ctx} {K:QH->ASt->Prop} {st:List Fr} {id:Nat} {l:List Oper} {s:ASt}
theorem Zr (pp:Nat) (ft:List Tmp) (σi σo:Qa) (v:V) {oc:Oper} (hoc:l.toArray[pp]? = some oc) (hreg:YK pp ft l=true) (hn:(Qa.keys σi).Nodup) (hno:(Qa.keys σo).Nodup) (hsub:∀ id,id∈Qa.keys σo->id∈Qa.keys σi)
 (h:go C 1000000 (.ops l.toArray (l.take pp)) [.draw] (fun _ s1=>DetS C oc s1 σi (.ret v) σo fun s2=>go C 1000000 (.ops l.toArray (l.drop (pp+1))) [.draw] (fun _ sN=>Far ft σi sN/\go C 1000000 .done st K sN) s2) s):Wait C (.region id l.toArray true) st K s:=by
 have hlt:pp<l.length:=by
  rw[List.getElem?_toArray] at hoc;exact (gS hoc).1
 exact yy pp ft σi σo v hoc (qx pp) (jJ _ _ (by omega)) hreg hn hno hsub h
theorem qL (pp:Nat) (ft:List Tmp) (σi σo:Qa) (p:V) (postI:List Nat) (post:List Oper) {oc:Oper} (hoc:l.toArray[pp]? = some oc) (hpost:(postI.filterMap fun i=>l.toArray[i]?)=post)
 (hI:((List.range' 0 l.length).filter fun i=>!((WQ l []).getD i []).contains pp)=List.range' 0 pp++pp::postI)
 (hreg:YK pp ft l=true) (hpan:yH pp l=true) (hn:(Qa.keys σi).Nodup) (hno:(Qa.keys σo).Nodup) (hsub:∀ id,id∈Qa.keys σo->id∈Qa.keys σi)
 (h:go C 1000000 (.ops l.toArray (l.take pp)) [.draw] (fun _ s1=>DetS C oc s1 σi (.pan p) σo fun s2=>go C 1000000 (.ops l.toArray post) [.draw] (fun _ sN=>Far ft σi sN) s2) s)
 (hk:K (.panic p) { s with τ:=qY l s.τ,σ:=σo++s.σ.less σi }):Wait C (.region id l.toArray true) st K s:=
 vX pp ft σi σo p hoc (qx pp) hpost hI hreg hpan hn hno hsub h hk
end
theorem exE_none {f:Nat} {l:List Tok} (h:Yk (hd l)=none):exE (f+1) 3 l =
 if (hd l).kind=2 then .ok (.mk [] (hd l).num [] [],l.tail)
 else if (hd l).isB [40] then
  match exE f 0 l.tail with
  | .error e=>.error e
  | .ok (e,l)=>match QZ [41] l with
    | .error e=>.error e
    | .ok (_,l)=>.ok (e,l)
 else match WI l with
  | .error e=>.error e
  | .ok (n,l)=>.ok (.mk wReg zero n [],l):=by
 rw[exE,if_neg (by omega),h];rfl
theorem QC {t:Tok} {s:Bs} (h:t.isB s=true):t.kind≠0:=fun h0=>by simp[Tok.isB,h0] at h
theorem exE_sign {f:Nat} {l:List Tok} {op:Bs} (h:Yk (hd l)=some op):exE (f+1) 3 l=match exE f 3 l.tail with|.error e=>.error e|.ok (e,l)=>.ok (.mk op zero [] [e],l):=by
 rw[exE,if_neg (by omega),h];rfl
theorem nat4 {k:Nat} (h:k<4):k=0∨k=1∨k=2∨k=3:=by omega
theorem uB {t:Tok} {k:Nat} (hk:k<4) (hn:∀ j,j<k->t.isB (Yd.getD j default).1=false) (hb:t.isB (Yd.getD k default).1=true):Yk t=some (Yd.getD k default).2:=by
 have e:∀ j,t.isB (Yd.getD j default).1=(if j=0 then t.isB [45] else if j=1 then t.isB [126] else if j=2 then t.isB [33] else if j=3 then t.isB [35] else t.isB []):=fun j=>by
  match j with
  | 0|1|2|3=>rfl
  | _+4=>rfl
 unfold Yk;rcases nat4 hk with rfl|rfl|rfl|rfl
 ·have h0:t.isB [45]=true:=hb;rw[if_pos h0];rfl
 ·have h0:t.isB [45]=false:=hn 0 (by omega);have h1:t.isB [126]=true:=hb;rw[if_neg (by rw[h0];simp),if_pos h1];rfl
 ·have h0:t.isB [45]=false:=hn 0 (by omega);have h1:t.isB [126]=false:=hn 1 (by omega);have h2:t.isB [33]=true:=hb;rw[if_neg (by rw[h0];simp),if_neg (by rw[h1];simp),if_pos h2];rfl
 ·have h0:t.isB [45]=false:=hn 0 (by omega);have h1:t.isB [126]=false:=hn 1 (by omega);have h2:t.isB [33]=false:=hn 2 (by omega);have h3:t.isB [35]=true:=hb;rw[if_neg (by rw[h0];simp),if_neg (by rw[h1];simp),if_neg (by rw[h2];simp),if_pos h3];rfl
theorem zy {t:Tok} (hn:∀ j,j<4->t.isB (Yd.getD j default).1=false):Yk t=none:=by
 have h0:t.isB [45]=false:=hn 0 (by omega);have h1:t.isB [126]=false:=hn 1 (by omega);have h2:t.isB [33]=false:=hn 2 (by omega);have h3:t.isB [35]=false:=hn 3 (by omega);unfold Yk;rw[if_neg (by rw[h0];simp),if_neg (by rw[h1];simp),if_neg (by rw[h2];simp),if_neg (by rw[h3];simp)]
def jm (f:Nat):Prop:=∀ l,TokL l->okR (exE f 3 l)->APar 197 [] l Qh (exE f 3 l)
def Qiq (f:Nat):Prop:=∀ k l,k<=3->TokL l->okR (exE f k l)->APar 178 [.int .i64 (k:Nat)] l Qh (exE f k l)
theorem ZM {t:Tok} {op:Bs} (h:Yk t=some op):t.kind≠0:=by
 unfold Yk at h;split at h
 ·rename_i hb;exact QC hb
 ·split at h
  ·rename_i hb;exact QC hb
  ·split at h
   ·rename_i hb;exact QC hb
   ·split at h
    ·rename_i hb;exact QC hb
    ·cases h
theorem YR {t:Tok} {ws:List Bs} {op:Bs} (h:Zp t ws=some op):t.kind≠0:=QC (List.find?_some h)
theorem Jp {s:Bs} {l l2:List Tok} {u:Unit} (hl:TokL l) (h:QZ s l = .ok (u,l2)):TokL l2:=by
 unfold QZ at h;split at h
 ·rename_i hb;cases h;exact hl.tail (QC hb)
 ·cases h
theorem Vl {l l2:List Tok} {n:Bs} (hl:TokL l) (h:WI l = .ok (n,l2)):TokL l2:=by
 unfold WI at h;split at h
 ·rename_i hb;cases h;exact hl.tail (by rw[hb.1];decide)
 ·cases h
theorem ZF:∀ f,(∀ k l e l2,TokL l->exE f k l = .ok (e,l2)->TokL l2)/\(∀ k e0 l e l2,TokL l->chE f k e0 l = .ok (e,l2)->TokL l2)
 | 0=>⟨fun k l e l2 _ h=>(by rw[exE] at h;cases h),fun k e0 l e l2 _ h=>(by rw[chE] at h;cases h)⟩
 | f+1=>by
   obtain⟨ih1,ih2⟩:=ZF f;refine⟨fun k l e l2 hl h=>?_,fun k e0 l e l2 hl h=>?_⟩
   ·rw[exE] at h;split at h
    ·split at h
     ·cases h
     ·rename_i e1 l1 h1;exact ih2 _ _ _ _ _ (ih1 _ _ _ _ hl h1) h
    ·split at h
     ·rename_i op hop;split at h
      ·cases h
      ·rename_i e1 l1 h1;cases h;exact ih1 _ _ _ _ (hl.tail (ZM hop)) h1
     ·split at h
      ·rename_i h2;cases h;exact hl.tail (by rw[h2];decide)
      ·split at h
       ·rename_i hb;split at h
        ·cases h
        ·rename_i e1 l1 h1;split at h
         ·cases h
         ·rename_i u l3 h3;cases h;exact Jp (ih1 _ _ _ _ (hl.tail (QC hb)) h1) h3
       ·split at h
        ·cases h
        ·rename_i n l1 h1;cases h;exact Vl hl h1
   ·rw[chE] at h;split at h
    ·cases h;exact hl
    ·rename_i op hop;split at h
     ·cases h
     ·rename_i e1 l1 h1;have hl1:=ih1 _ _ _ _ (hl.tail (YR hop)) h1;split at h
      ·cases h;exact hl1
      ·exact ih2 _ _ _ _ _ hl1 h
theorem unary_ok (f:Nat) (hu:jm f) (he:Qiq f):jm (f+1):=by
 intro l hl hok p deep;refine ADet.down (ex:=[5]) ?_;refine ent Tryz.func197 fun L K hL hR hN hP=>?_;have hpL:p.1<L:=hL p (by simp[Qa.keys]);have ne1:¬ (L,0)=p:=fun e=>by rw[<- e] at hpL;exact Nat.lt_irrefl _ hpL
 have ne2:¬ p=(L,0):=fun e=>ne1 e.symm;obtain⟨gl,hgl,hgl8,hglk⟩:∃ gl,vg=V.agg gl/\gl.length=8/\∀ k,k<4->(gl.drop (k*2)).take 2=[V.str (bs (Yd.getD k default).1),V.str (bs (Yd.getD k default).2)]:=⟨_,rfl,rfl,fun k hk=>by rcases nat4 hk with rfl|rfl|rfl|rfl<;>rfl⟩
 simp[hgl,hgl8];refine QB (α:=Nat) (fun k=>k<=4/\∀ j,j<k->(hd l).isB (Yd.getD j default).1=false) (fun k=>[(0,.ptr p 0),(2,.ptr (L,0) 0),(7,.agg gl),(8,.int .i64 (k:Int))]) (fun _=>[((L,0),.cells 192 [.str (bs []),.cplx .f64 0 0,.str (bs []),.snil]),(p,pblk l deep)]) (fun k=>4 - k) 0 ⟨by omega,fun j h2=>by omega⟩ (twk (hn:=by simp[ne1])) ?_;rintro k L1 K1 ⟨hk,hnone⟩ hL1 - hnext hex hrt - hpn;simp;refine Qv.mk (fun hb=>?_) fun hb=>?_
 ·have hk4:k<4:=by simp at hb;omega
  obtain⟨w,hw⟩:∃ w,w=Yd.getD k default:=⟨_,rfl⟩
  have hk':=hglk k hk4;rw[<- hw] at hk';have b1:(0:Int)<=(k:Int):=by omega
  have b2:(k:Int)<4:=by omega
  have b3:k*2+2<=8:=by omega
  have hLL:L<L1:=hL1;have m1:¬ (L1,0)=p:=fun e=>by rw[<- e] at hpL;simp at hpL;omega
  have m2:¬ p=(L1,0):=fun e=>m1 e.symm;have m3:¬ L1=L:=by omega
  have m4:¬ L=L1:=by omega
  simp[b1,b2,b3,hgl8,hk'];refine Qe.det (ADet.up (Ub l hl w.1 p deep)) ?_ (by simp[Qa.keys]) (by decide) rfl (fun v hv=>?_) (fun v hv=>by simp[outP] at hv)
  ·simp
  cases hv;rcases hb:(hd l).isB w.1
  ·have w1:=wr2 k;simp[stP,w1,m1,ne1];exact hnext _ (k+1) ⟨by omega,fun j h2=>by
    by_cases e:j=k
    ·rw[e,<- hw];exact hb
    ·exact hnone j (by omega)⟩ (by omega) (twk (hn:=by simp[ne1]))
  ·simp[stP,m1,ne1];have hsg:Yk (hd l)=some w.2:=by rw[hw];exact uB hk4 hnone (by rw[<- hw];exact hb)
   have hstep:=exE_sign (f:=f) hsg;have hokt:okR (exE f 3 l.tail):=fun q hq=>hok q (by rw[hstep,hq]);have hcall:=ADet.up (ex:=[5]) (hu l.tail (hl.tail (QC hb)) hokt p deep);rcases hr:exE f 3 l.tail with er|⟨e,l2⟩
   ·rw[hr] at hcall hstep;refine qL 3 [4,15] [(p,pblk l.tail deep)] [] (Zo er) [] [] rfl rfl (by kernel_rfl) (by kernel_rfl) (by kernel_rfl) (by simp[Qa.keys]) (by simp[Qa.keys]) (by simp[Qa.keys]) ?_ ?_
    ·simp[m2];refine DetS.of rfl rfl rfl rfl rfl hcall rfl (by simp) ?_;intro t ht v hv id hid;simp at ht;rcases ht with rfl|rfl
     ·simp[AOut.val,ASt.putD] at hv;subst hv;simp[Qq] at hid;subst hid;simpa[Qa.keys] using m1
     ·simp[AOut.val,ASt.putD] at hv;subst hv;simp[Qq] at hid;subst hid;simpa[Qa.keys] using m1
    ·refine hpn _ _ ?_;rw[hstep] at hP;exact hP _ _ _ [] [] (by simp) (by simp) (by simp[Qa.keys]) (by simp[Qa.keys]) (.refl _) ⟨rfl,rfl⟩
   ·rw[hr] at hcall hstep;refine Zr 3 [4,15] [(p,pblk l.tail deep)] [(p,pblk l2 deep)] (Qh e) rfl (by kernel_rfl) (by simp[Qa.keys]) (by simp[Qa.keys]) (by simp[Qa.keys]) ?_;simp[m2];refine DetS.of rfl rfl rfl rfl rfl hcall rfl (by simp) ?_;obtain⟨eo,en,em,ep⟩:=e;simp[m1,m3,ne1,ne2,AOut.val,ASt.putD,Qh];refine⟨?_,?_⟩
    ·intro t ht v hv id hid;simp at ht;rcases ht with rfl|rfl
     ·simp at hv;subst hv;simp[Qq] at hid;subst hid;simpa[Qa.keys] using m1
     ·simp at hv;subst hv;simp[Qq] at hid;subst hid;simpa[Qa.keys] using m1
    ·rw[hstep] at hR;refine hrt _ (hR _ (.keep [] [(p,pblk l2 deep)] (by simp[Qf,Qj,m3,ne2];rfl) (by simp) (by simp) (by simp[Qa.keys]) (by simp[Qa.keys]) (.refl _) ⟨?_,rfl⟩));simp[outP,Qh,Qm,zero,fz0]
 ·have hk4:k=4:=by simp at hb;omega
  subst hk4;have hsg:Yk (hd l)=none:=zy hnone;have hstep:=exE_none (f:=f) hsg;obtain⟨t,r,rfl,ht,htk⟩:=hl.cons;have q1:¬ (L,1)=p:=fun e=>by rw[<- e] at hpL;exact Nat.lt_irrefl _ hpL
  have q2:¬ p=(L,1):=fun e=>q1 e.symm;have htake:(r.map Qg).take r.length=r.map Qg:=List.take_of_length_le (by simp);refine hex _ _ ?_;simp[pblk,Qg,ne1];rcases k2:(t.kind == 2)
  ·have hk2:¬ (hd (t::r)).kind=2:=by rw[ht];simpa using k2
   rw[if_neg hk2] at hstep;simp;refine Qe.det (ADet.up (Ub (t::r) hl [40] p deep)) ?_ (by simp[Qa.keys]) (by decide) rfl (fun v hv=>?_) (fun v hv=>by simp[outP] at hv)
   ·simp[pblk,Qg]
   cases hv;rcases hpar:(hd (t::r)).isB [40]
   ·rw[if_neg (by rw[hpar];simp)] at hstep;simp[stP,ne1,q1];rcases hnm:WI (t::r) with er|⟨nm,l2⟩
    ·rw[hnm] at hstep;rw[hstep] at hP;refine Qe.det (ADet.up (JS (t::r) hl p deep)) ?_ (by simp[Qa.keys]) (by decide) rfl (fun v hv=>by rw[hnm] at hv;simp[outP] at hv) (fun v hv=>?_)
     ·simp[pblk,Qg]
     rw[hnm] at hv;cases hv;exact hP _ _ _ [] [] (by simp) (by simp) (by simp[Qa.keys]) (by simp[Qa.keys]) (.refl _) ⟨rfl,rfl⟩
    ·rw[hnm] at hstep;rw[hstep] at hR;refine Qe.det (ADet.up (JS (t::r) hl p deep)) ?_ (by simp[Qa.keys]) (by decide) rfl (fun v hv=>?_) (fun v hv=>by rw[hnm] at hv;simp[outP] at hv)
     ·simp[pblk,Qg]
     rw[hnm] at hv;cases hv;simp[stP,hnm,ne1,ne2,q1];refine hR _ (.keep [] [(p,pblk l2 deep)] (by simp[Qf,Qj,ne2];rfl) (by simp[pblk]) (by simp) (by simp[Qa.keys]) (by simp[Qa.keys]) (v':=Qh (.mk wReg zero nm [])) ?_ ⟨rfl,rfl⟩);exact .agg (.cons (.refl _) (.cons (.refl _) (.cons (.refl _) (.cons .snil .nil))))
   ·rw[if_pos hpar] at hstep;have hokp:okR (exE f 0 (t::r).tail):=fun q hq=>hok q (by rw[hstep,hq]);have hlt:TokL (t::r).tail:=hl.tail (QC hpar);have hcall:=ADet.up (ex:=[5]) (he 0 (t::r).tail (by omega) hlt hokp p deep);simp[stP,ne1,q1];rcases hr:exE f 0 (t::r).tail with er|⟨e,l2⟩
    ·rw[hr] at hcall hstep;rw[hstep] at hP;refine Qe.det hcall ?_ (by simp[Qa.keys]) (by decide) rfl (fun v hv=>by simp[outP] at hv) (fun v hv=>?_)
     ·simp[pblk]
     cases hv;exact hP _ _ _ [] [] (by simp) (by simp) (by simp[Qa.keys]) (by simp[Qa.keys]) (.refl _) ⟨rfl,rfl⟩
    ·rw[hr] at hcall hstep;have hl2:TokL l2:=(ZF f).1 _ _ _ _ hlt hr;refine Qe.det hcall ?_ (by simp[Qa.keys]) (by decide) rfl (fun v hv=>?_) (fun v hv=>by simp[outP] at hv)
     ·simp[pblk]
     cases hv;obtain⟨eo,en,em,ep⟩:=e;have q3:¬ (L,2)=p:=fun e=>by rw[<- e] at hpL;exact Nat.lt_irrefl _ hpL
     have q4:¬ p=(L,2):=fun e=>q3 e.symm;simp[stP,Qh,ne1,q1];rcases hm:QZ [41] l2 with er|⟨u,l3⟩
     ·simp only[hm] at hstep;rw[hstep] at hP;refine Qe.det (ADet.up (Xy l2 hl2 [41] p deep)) ?_ (by simp[Qa.keys]) (by decide) rfl (fun v hv=>by rw[hm] at hv;simp[outP] at hv) (fun v hv=>?_)
      ·simp
      rw[hm] at hv;cases hv;exact hP _ _ _ [] [] (by simp) (by simp) (by simp[Qa.keys]) (by simp[Qa.keys]) (.refl _) ⟨rfl,rfl⟩
     ·simp only[hm] at hstep;rw[hstep] at hR;refine Qe.det (ADet.up (Xy l2 hl2 [41] p deep)) ?_ (by simp[Qa.keys]) (by decide) rfl (fun v hv=>?_) (fun v hv=>by rw[hm] at hv;simp[outP] at hv)
      ·simp
      rw[hm] at hv;cases hv;simp[stP,hm,ne1,ne2,q1,q3,q4];exact hR _ (.keep [] [(p,pblk l3 deep)] (by simp[Qf,Qj,ne2];rfl) (by simp[pblk]) (by simp) (by simp[Qa.keys]) (by simp[Qa.keys]) (.refl _) ⟨by simp[outP,Qh],rfl⟩)
  ·have hk2:(hd (t::r)).kind=2:=by rw[ht];simpa using k2
   rw[if_pos hk2] at hstep;rw[hstep] at hR;simp[Qg,ne1,q1,htake];refine hR _ (.keep [] [(p,pblk r deep)] (by simp[Qf,Qj];rfl) (by simp[pblk]) (by simp) (by simp[Qa.keys]) (by simp[Qa.keys]) (v':=Qh (.mk [] t.num [] [])) ?_ ⟨by rw[ht];rfl,rfl⟩);exact .agg (.cons (.refl _) (.cons (.refl _) (.cons (.refl _) (.cons .snil .nil))))
def Zl:Ex->List V
 | .mk op num name parts=>[.str (bs op),.cplx .f64 (fz num.re) (fz num.im),.str (bs name),.slice (Qm parts)]
theorem QDq (e:Ex):Qh e = .agg (Zl e):=by cases e;rfl
def behind (g k:Nat) (e:Ex) (op:Bs) (l:List Tok):PR Ex:=
 match exE g (k+1) l with
 | .error er=>.error er
 | .ok (e2,l2)=>if k=0 then .ok (.mk op zero [] [e,e2],l2) else chE g k (.mk op zero [] [e,e2]) l2
theorem levels_ne {k:Nat} {w:Bs} (h:w∈QE k):w≠[]:=by
 unfold QE at h;split at h<;>simp at h
 ·rcases h with rfl|rfl|rfl<;>simp
 ·rcases h with rfl|rfl<;>simp
 ·subst h;simp
theorem chE_succ {g k:Nat} {e:Ex} {l:List Tok}:chE (g+1) k e l=match Zp (hd l) (QE k) with|none=>.ok (e,l)|some op=>behind g k e op l.tail:=by
 rw[chE];rfl
structure XE where
 g:Nat
 e:Ex
 l:List Tok
 op:Bs
structure JE (R:PR Ex) (f k:Nat) (x:XE):Prop where
 tok:TokL x.l
 g:x.g<=f
 res:(x.op=[]/\R = .ok (x.e,x.l))∨(x.op≠[]/\R=behind x.g k x.e x.op x.l)
theorem QIq {R:PR Ex} {f k g:Nat} {e:Ex} {l:List Tok} (hl:TokL l) (hg:g<=f) (hR:R=chE g k e l) (hok:okR R):
 ∃ op l3 g',anyR (QE k) l = .ok (op,l3)/\JE R f k ⟨g',e,l3,op⟩/\g' < g:=by
 cases g with
 | zero=>
   exfalso;rw[chE] at hR;exact hok _ hR
 | succ g=>
   rw[chE_succ] at hR;cases ha:Zp (hd l) (QE k) with
   | none=>
     rw[ha] at hR;exact⟨[],l,g,by unfold anyR;rw[ha],⟨hl,by simp only;omega,.inl ⟨rfl,hR⟩⟩,by omega⟩
   | some w=>
     rw[ha] at hR;have hw:w≠[]:=levels_ne (List.mem_of_find?_eq_some ha);exact⟨w,l.tail,g,by unfold anyR;rw[ha],⟨hl.tail (YR ha),by simp only;omega,.inr ⟨hw,hR⟩⟩,by omega⟩
theorem expr_ok (f:Nat) (he:∀ g,g<=f->Qiq g) (hu:jm (f+1)):Qiq (f+1):=by
 intro k l hk hl hok p deep;refine ADet.down (ex:=[7]) ?_;by_cases hk3:k=3
 ·subst hk3;have hcall:=ADet.up (ex:=[7]) (hu l hl hok p deep);refine ent Tryz.func178 fun L K hL hR hN hP=>?_;have hpL:p.1<L:=hL p (by simp[Qa.keys]);have ne1:¬ (L,0)=p:=fun e=>by rw[<- e] at hpL;exact Nat.lt_irrefl _ hpL
  have ne2:¬ p=(L,0):=fun e=>ne1 e.symm;simp;rcases hr:exE (f+1) 3 l with er|⟨e,l2⟩
  ·rw[hr] at hcall hP;refine Qe.det hcall ?_ (by simp[Qa.keys]) (by decide) rfl (fun v hv=>by simp[outP] at hv) (fun v hv=>?_)
   ·simp
   cases hv;exact hP _ _ _ [] [] (by simp) (by simp) (by simp[Qa.keys]) (by simp[Qa.keys]) (.refl _) ⟨rfl,rfl⟩
  ·rw[hr] at hcall hR;refine Qe.det hcall ?_ (by simp[Qa.keys]) (by decide) rfl (fun v hv=>?_) (fun v hv=>by simp[outP] at hv)
   ·simp
   cases hv;obtain⟨eo,en,em,ep⟩:=e;simp[stP,Qh,ne1,ne2];exact hR _ (.keep [] [(p,pblk l2 deep)] (by simp[Qf,Qj,ne2];rfl) (by simp) (by simp) (by simp[Qa.keys]) (by simp[Qa.keys]) (.refl _) ⟨by simp[outP,Qh],rfl⟩)
 have hk2:k<3:=by omega
 have hR0:exE (f+1) k l=match exE f (k+1) l with|.error er=>.error er|.ok (e,l)=>chE f k e l:=by
  rw[exE,if_pos hk2];rfl
 have hokE:okR (exE f (k+1) l):=fun q hq=>hok q (by rw[hR0,hq]);have hcall:=ADet.up (ex:=[7]) (he f (Nat.le_refl _) (k+1) l (by omega) hl hokE p deep);refine ent Tryz.func178 fun L K hL hR hN hP=>?_;have hpL:p.1<L:=hL p (by simp[Qa.keys]);have ne1:¬ (L,0)=p:=fun e=>by rw[<- e] at hpL;exact Nat.lt_irrefl _ hpL
 have ne2:¬ p=(L,0):=fun e=>ne1 e.symm;have q1:¬ (L,1)=p:=fun e=>by rw[<- e] at hpL;exact Nat.lt_irrefl _ hpL
 have q2:¬ p=(L,1):=fun e=>q1 e.symm;have n3:¬ ((k:Int)=3):=by omega
 have n3b:((k:Int) == 3)=false:=by simpa using n3
 have w1:IntKind.i64.wrap ((k:Int)+1)=(k:Int)+1:=wrap_i64 (by omega) (by omega);obtain⟨gl,hgl,hgl8,hglk⟩:∃ gl,we=V.agg gl/\gl.length=3/\∀ k,k<3->gl[k]? = some (V.slice ((QE k).map encS)):=⟨_,rfl,rfl,fun k hk=>by
  have:k=0∨k=1∨k=2:=by omega
  rcases this with rfl|rfl|rfl<;>rfl⟩
 have hlv:∀ h:k<gl.length,gl[k]'h=V.slice ((QE k).map encS):=fun h=>by
  have:=hglk k hk2;rw[List.getElem?_eq_getElem h] at this;exact Option.some.inj this
 simp[n3b,w1];rcases hr:exE f (k+1) l with er|⟨e,l2⟩
 ·rw[hr] at hcall hR0;rw[hR0] at hP;refine Qe.det hcall ?_ (by simp[Qa.keys]) (by decide) rfl (fun v hv=>by simp[outP] at hv) (fun v hv=>?_)
  ·simp
  cases hv;exact hP _ _ _ [] [] (by simp) (by simp) (by simp[Qa.keys]) (by simp[Qa.keys]) (.refl _) ⟨rfl,rfl⟩
 rw[hr] at hcall hR0;have hl2:TokL l2:=(ZF f).1 _ _ _ _ hl hr;refine Qe.det hcall ?_ (by simp[Qa.keys]) (by decide) rfl (fun v hv=>?_) (fun v hv=>by simp[outP] at hv)
 ·simp
 cases hv;obtain⟨eo,en,em,ep⟩:=e;simp[stP,Qh,ne1,hgl,hgl8,hlv,hk2];have hlen:(QE k).length<=1000:=by
  have:k=0∨k=1∨k=2:=by omega
  rcases this with rfl|rfl|rfl<;>decide
 obtain⟨op,l3,g',hany,hje,hg'⟩:=QIq (R:=exE (f+1) k l) hl2 (Nat.le_refl f) hR0 hok;have hca:=ADet.up (ex:=[7]) (any_ok l2 hl2 (QE k) hlen p deep);rw[hany] at hca;refine Qe.det hca ?_ (by simp[Qa.keys]) (by decide) rfl (fun v hv=>?_) (fun v hv=>by simp[outP] at hv)
 ·simp
 cases hv;simp[stP,ne1,q1];refine QB (α:=XE) (JE (exE (f+1) k l) f k) (fun x=>[(0,.ptr p 0),(1,.int .i64 (k:Int)),(4,.ptr (L,0) 0),(5,.ptr (L,1) 0),(6,.str (bs x.op))]) (fun x=>[((L,1),.cells 192 (Zl x.e)),((L,0),.cells 192 [.str (bs []),.cplx .f64 0 0,.str (bs []),.snil]),(p,pblk x.l deep)]) (fun x=>x.g) ⟨g',.mk eo en em ep,l3,op⟩ hje (Qb (by simp) (by simp[Zl]) (by simp[ne1,q1])) ?_;rintro⟨g,⟨fo,fn,fm,fp⟩,lx,ox⟩ L1 K1 ⟨htok,hgf,hres⟩ hL1 - hnext hex hrt - hpn;simp only at htok hgf hres;have hLL:L<L1:=hL1;simp[Zl];rcases hop:ox.isEmpty
 ·have hne:ox≠[]:=fun e=>by rw[e] at hop;cases hop
  have hbe:exE (f+1) k l=behind g k (.mk fo fn fm fp) ox lx:=(hres.resolve_left fun h=>hne h.1).2;have hokb:okR (exE g (k+1) lx):=fun q hq=>hok q (by rw[hbe];unfold behind;rw[hq]);have hcall:=ADet.up (ex:=[7]) (he g hgf (k+1) lx (by omega) htok hokb p deep);simp;rcases hr:exE g (k+1) lx with er|⟨e2,l4⟩
  ·rw[hr] at hcall;have hend:exE (f+1) k l = .error er:=by rw[hbe];unfold behind;rw[hr]
   rw[hend] at hP;refine qL 5 [5] [(p,pblk lx deep)] [] (Zo er) [] [] rfl rfl (by kernel_rfl) (by kernel_rfl) (by kernel_rfl) (by simp[Qa.keys]) (by simp[Qa.keys]) (by simp[Qa.keys]) ?_ ?_
   ·simp[w1];refine DetS.of rfl rfl rfl rfl rfl hcall rfl (by simp) ?_;intro t ht v hv id hid;simp at ht;subst ht;simp[AOut.val,ASt.putD] at hv;subst hv;simp[Qq] at hid;subst hid;simpa[Qa.keys] using q1
   ·refine hpn _ _ ?_;exact hP _ _ _ [] [] (by simp) (by simp) (by simp[Qa.keys]) (by simp[Qa.keys]) (.refl _) ⟨rfl,rfl⟩
  ·rw[hr] at hcall;have hl4:TokL l4:=(ZF g).1 _ _ _ _ htok hr;refine Zr 5 [5] [(p,pblk lx deep)] [(p,pblk l4 deep)] (Qh e2) rfl (by kernel_rfl) (by simp[Qa.keys]) (by simp[Qa.keys]) (by simp[Qa.keys]) ?_;simp[w1];refine DetS.of rfl rfl rfl rfl rfl hcall rfl (by simp) ?_;obtain⟨so,sn,sm,sp⟩:=e2;simp[ne1,q1,q2,AOut.val,ASt.putD,Qh];refine⟨?_,?_⟩
   ·intro t ht v hv id hid;simp at ht;subst ht;simp at hv;subst hv;simp[Qq] at hid;subst hid;simpa[Qa.keys] using q1
   ·by_cases hk0:k=0
    ·have hend:exE (f+1) k l = .ok (.mk ox zero [] [.mk fo fn fm fp,.mk so sn sm sp],l4):=by rw[hbe];unfold behind;rw[hr];simp only[if_pos hk0]
     rw[hend] at hR;have hkb:((k:Int) == 0)=true:=by simp[hk0]
     simp[hkb];refine hex _ _ ?_;simp[ne2,q2];exact hR _ (.keep [] [(p,pblk l4 deep)] (by simp[Qf,Qj,ne2];rfl) (by simp) (by simp) (by simp[Qa.keys]) (by simp[Qa.keys]) (.refl _) ⟨by simp[outP,Qh,Qm,zero,fz0],rfl⟩)
    ·have hgo:exE (f+1) k l=chE g k (.mk ox zero [] [.mk fo fn fm fp,.mk so sn sm sp]) l4:=by rw[hbe];unfold behind;rw[hr];simp only[if_neg hk0]
     obtain⟨op2,l5,g2,hany2,hje2,hg2⟩:=QIq (R:=exE (f+1) k l) hl4 hgf hgo hok;have hkb:((k:Int) == 0)=false:=by simp[hk0]
     have hca2:=ADet.up (ex:=[7]) (any_ok l4 hl4 (QE k) hlen p deep);rw[hany2] at hca2;simp[hkb,hgl,hgl8,hlv,hk2];refine Qe.det hca2 ?_ (by simp[Qa.keys]) (by decide) rfl (fun v hv=>?_) (fun v hv=>by simp[outP] at hv)
     ·simp
     cases hv;simp[stP,ne1,q1];exact hnext _ ⟨g2,_,l5,op2⟩ hje2 hg2 (Qb (by simp) (by simp[Zl,Qh,Qm,zero,fz0]) (by simp[ne1,q1]))
 ·have he0:ox=[]:=by simpa using hop
  have hend:exE (f+1) k l = .ok (.mk fo fn fm fp,lx):=(hres.resolve_right fun h=>h.1 he0).2;rw[hend] at hR;simp;refine hex _ _ ?_;simp;exact hR _ (.keep [] [(p,pblk lx deep)] (by simp[Qf,Qj];rfl) (by simp) (by simp) (by simp[Qa.keys]) (by simp[Qa.keys]) (.refl _) ⟨by simp[outP,Qh],rfl⟩)
theorem expr_all:∀ f,jm f/\Qiq f:=by
 intro f
 induction f using Nat.strongRecOn with
 | _ f ih=>
   cases f with
   | zero=>
     refine⟨fun l _ h=>(h _ (by rw[exE])).elim,fun k l _ _ h=>(h _ (by rw[exE])).elim⟩
   | succ f=>
     have hu:=unary_ok f (ih f (by omega)).1 (ih f (by omega)).2;exact⟨hu,expr_ok f (fun g hg=>(ih g (by omega)).2) hu⟩
end Go.Awp.R1
