/- AWP, text 27: a statement that draws its order, where some variables are known to stay as they are. -/
import Derived.Test.YtnielafbkgpgjaaGreatDoorX13
set_option linter.all false
set_option maxRecDepth 100000
set_option maxHeartbeats 8000000
namespace Go.Awp
open Go
def idleX (cst:List Tmp):Op->Bool
 | .load _ (.tmp x)=>cst.contains x
 | op=>WY op
def dstFree (cst:List Tmp) (o:Oper):Bool:=
 match o.dst with
 | none=>true
 | some t=>!cst.contains t||(match o.op with|.fieldAddr _ (.tmp y) _=>cst.contains y|_=>false)
def rp:V->Bool
 | .rptr _=>true
 | .tup _=>true
 | _=>false
def Csts (cst:List Tmp) (s:ASt):Prop:=∀ x,x∈cst->∀ v,s.τ.lookup x=some v->rp v=true
theorem Csts.put {cst:List Tmp} {s:ASt} (h:Csts cst s) {d:Option Tmp} (v:V) (hv:∀ t,d=some t->t∈cst->rp v=true):Csts cst (s.putD d v):=fun x hx w hw=>by
 cases d with
 | none=>exact h x hx w hw
 | some t=>
   simp only[ASt.putD,List.lookup_cons] at hw;split at hw
   ·rename_i e;have e:x=t:=by simpa using e
    cases hw;exact hv t rfl (e▸hx)
   ·exact h x hx w hw
theorem opA_field {P:Program} {lk:Operand->Option V} {get:Id->Option Blk} {j:Id} {t f:Nat} {x:Operand} {v:V} {u:Upd} (h:opA P lk get j (.fieldAddr t x f)=some (v,u)):(lk x).bind (vm P t f)=some v:=by
 have hv:WO P lk get j (.fieldAddr t x f)=none:=rfl;have hsb:Xc P lk get (.fieldAddr t x f)=none:=rfl;have hmb:Ws P lk get j (.fieldAddr t x f)=none:=rfl;have hso:QN P lk get j (.fieldAddr t x f)=none:=rfl;have hp:QY P lk (.fieldAddr t x f)=(lk x).bind (vm P t f):=rfl;unfold opA at h;rw[hp,hso,hsb,hmb,hv] at h;cases e:(lk x).bind (vm P t f) with
 | none=>rw[e] at h;cases h
 | some w=>rw[e] at h;cases h;rfl
theorem faddr_rp {P:Program} {t f:Nat} {x v:V} (hx:rp x=true) (h:vm P t f x=some v):rp v=true:=by
 unfold vm at h;split at h
 ·obtain⟨_,_,h⟩:=Option.bind_eq_some_iff.1 h;obtain⟨_,_,h⟩:=Option.bind_eq_some_iff.1 h;split at h
  ·cases h
  ·obtain⟨_,_,rfl⟩:=Option.map_eq_some_iff.1 h;rfl
 ·cases hx
 ·cases hx
 ·cases h
theorem dst_rp {C:Ctx} {cst:List Tmp} {s:ASt} {o:Oper} (hc:Csts cst s) (hd:dstFree cst o=true) {get:Id->Option Blk} {j:Id} {v:V} {u:Upd} (h:opA C.P (lkA C s.τ) get j o.op=some (v,u)):∀ t,o.dst=some t->t∈cst->rp v=true:=fun t ht hm=>by
 unfold dstFree at hd;rw[ht] at hd;have hm:cst.contains t=true:=List.contains_iff_mem.2 hm;simp only[hm,Bool.not_true,Bool.false_or] at hd;split at hd
 ·rename_i y _ e;rw[e] at h;obtain⟨x,hx,h⟩:=Option.bind_eq_some_iff.1 (opA_field h);exact faddr_rp (hc y (List.contains_iff_mem.1 hd) x hx) h
 ·cases hd
theorem dst_call {cst:List Tmp} {o:Oper} {c:Call} (hd:dstFree cst o=true) (h:o.op = .call c) (v:V):∀ t,o.dst=some t->t∈cst->rp v=true:=fun t ht hm=>by
 unfold dstFree at hd;rw[ht,h] at hd;have hm:cst.contains t=true:=List.contains_iff_mem.2 hm;simp only[hm,Bool.not_true,Bool.false_or] at hd;cases hd
section
variable {C:Ctx} {cst:List Tmp} {ops:Array Oper}
theorem idleX_reader {op:Op} (h:idleX cst op=true):QG op=false:=by
 cases op<;>simp_all [idleX,WY,QG]
theorem opA_idleX {s:ASt} (hcst:Csts cst s) {get get':Id->Option Blk} {j j':Id} {op:Op} (h:idleX cst op=true):opA C.P (lkA C s.τ) get' j' op=opA C.P (lkA C s.τ) get j op:=by
 unfold idleX at h;split at h
 ·rename_i ty x;have hc:=hcst x (List.contains_iff_mem.1 h);rw[opA_load,opA_load];cases hv:s.τ.lookup x with
  | none=>simp only[lkA,hv,uN]
  | some v=>
    have:=hc v hv;cases v<;>simp[rp] at this<;>simp only[lkA,hv,uN]
 ·exact opA_idle h
theorem plainX {o:Oper} {s:ASt} {v:V} {u:Upd} (hn:Neat s) (hcst:Csts cst s) (h:opA C.P (lkA C s.τ) s.σ.get (s.lv,s.nx) o.op=some (v,u)):
 ∃ ro wi wo,LT C o (lkA C s.τ) (ro++wi) (s.lv,s.nx) s.lv v (ro++wo) u.Wf/\(∀ x,x∈ro++wi->x∈s.σ)/\(Qa.keys (ro++wi)).Nodup/\
  (∀ x,x∈u.app s.σ (s.lv,s.nx)↔(x∈wo∨(x∈s.σ/\x.1∉Qa.keys wi)))/\(∀ id,id∈Qa.keys ro->id∈touch (lkA C s.τ) o.op.operands.toList)/\
  (∀ id,(id∈Qa.keys wi∨id∈Qa.keys wo)->id∈u.wr (s.lv,s.nx))/\(idleX cst o.op=true->ro=[]/\wi=[]/\wo=[])/\(QG o.op=false->wi=[]/\wo=[]):=by
 by_cases hi:idleX cst o.op=true
 ·have hw:QG o.op=false:=by
   exact idleX_reader hi
  have hu:=qA hw h;subst hu;refine⟨[],[],[],LT.of_ok (fun j' _=>⟨[],jK (σ:=[]) (u:=.none) (by rw[<- h];exact opA_idleX hcst hi),fun x=>Iff.rfl⟩) (by simp[Qa.keys]),by simp,by simp[Qa.keys],fun x=>by simp[Upd.app,Qa.keys],by simp[Qa.keys],by simp[Qa.keys],fun _=>⟨rfl,rfl,rfl⟩,fun _=>⟨rfl,rfl⟩⟩
 ·obtain⟨ro,wi,wo,h1,h2,h3,h4,h5,h6⟩:=plainD hn h;refine⟨ro,wi,wo,h1,h2,h3,h4,h5,h6,fun h=>absurd h hi,fun hw=>?_⟩;have hu:=qA hw h;subst hu;simp only[Upd.wr] at h6;have nokey:∀ σ:Qa,(∀ id,id∈Qa.keys σ->False)->σ=[]:=fun σ hσ=>by
   cases σ with
   | nil=>rfl
   | cons x r=>exact (hσ x.1 (by simp[Qa.keys])).elim
  exact⟨nokey wi fun id hid=>(by simpa using h6 id (.inl hid)),nokey wo fun id hid=>(by simpa using h6 id (.inr hid))⟩
structure ChainX (cst:List Tmp) (C:Ctx) (ops:Array Oper) (k len:Nat) (s sN:ASt) (D:Nat->D):Prop where
 en:EnL C ops s.n s.lv D (List.range' k len) (toMS s)
 app:appL ops D (List.range' k len) (toMS s)=toMS sN
 neat:Neat sN
 n:sN.n=s.n
 lv:sN.lv=s.lv
 nx:s.nx<=sN.nx
 j1:∀ i,(D i).j.1=s.lv
 j2:∀ i,k<=i->s.nx<=(D i).j.2
 j3:∀ i,k<=i->i<k+len->(D i).nw=true->(D i).j.2<sN.nx
 j4:∀ i i',k<=i->i<i'->(D i).nw=true->i<k+len->i' < k+len->(D i).j.2<(D i').j.2
 idle:∀ i o,k<=i->i<k+len->ops[i]? = some o->idleX cst o.op=true->(D i).ro=[]/\(D i).wi=[]/\(D i).wo=[]
 reads:∀ i o,k<=i->i<k+len->ops[i]? = some o->QG o.op=false->(D i).wi=[]/\(D i).wo=[]
 pan:∀ i,k<=i->i<k+len->(D i).pan=none
theorem ChainX.nil {k:Nat} {s:ASt} (h:Neat s):ChainX cst C ops k 0 s s fun _=>⟨false,.tup [],[],[],[],(s.lv,s.nx),false,none⟩:=
 ⟨trivial,rfl,h,rfl,rfl,Nat.le_refl _,fun _=>rfl,fun _ _=>Nat.le_refl _,fun _ _ _ h=>(by cases h),fun _ _ _ _ h=>(by cases h),fun _ _ _ _ _ _=>⟨rfl,rfl,rfl⟩,fun _ _ _ _ _ _=>⟨rfl,rfl⟩,fun _ _ _=>rfl⟩
theorem ChainX.cons {k len:Nat} {s s1 sN:ASt} {o:Oper} {d:D} {D:Nat->D} (ho:ops[k]? = some o) (he:En C ops s.n s.lv o d (toMS s)) (hm:toMS s1=(toMS s).app o.dst d) (hn:s1.n=s.n) (hl:s1.lv=s.lv)
 (hx:s.nx<=s1.nx) (hj:d.j=(s.lv,s.nx)) (hnw:d.nw=true->s.nx<s1.nx) (hid:idleX cst o.op=true->d.ro=[]/\d.wi=[]/\d.wo=[]) (hrd:QG o.op=false->d.wi=[]/\d.wo=[]) (hpn:d.pan=none) (h:ChainX cst C ops (k+1) len s1 sN D):
 ChainX cst C ops k (len+1) s sN fun i=>if i=k then d else D i:=by
 have ne:∀ i∈List.range' (k+1) len,D i=if i=k then d else D i:=fun i hi=>by
  have:=(List.mem_range'_1.1 hi).1;rw[if_neg (by omega)]
 have hjk:d.j.1=s.lv/\d.j.2=s.nx:=by rw[hj];exact⟨rfl,rfl⟩
 refine⟨?_,?_,h.neat,h.n.trans hn,h.lv.trans hl,Nat.le_trans hx h.nx,fun i=>?_,fun i hi=>?_,fun i hi hi' hnw'=>?_,fun i i' hi hii hnw' h1 h2=>?_,fun i o' hi hi' ho' hb=>?_,fun i o' hi hi' ho' hb=>?_,fun i hi hi'=>?_⟩
 ·rw[List.range'_succ];refine⟨o,ho,by simpa using he,?_⟩;simp only[if_true];rw[<- hm];have:=h.en;rw[hn,hl] at this;exact this.congr ne
 ·rw[List.range'_succ];simp only[appL,ho,Option.bind_some,if_pos];rw[<- hm,<- qI (D1:=D) ne];exact h.app
 ·split
  ·exact hjk.1
  ·exact (h.j1 i).trans hl
 ·split
  ·rw[hjk.2];exact Nat.le_refl _
  ·exact Nat.le_trans hx (h.j2 i (by omega))
 ·split at hnw'
  ·rename_i e;rw[if_pos e,hjk.2];exact Nat.lt_of_lt_of_le (hnw hnw') h.nx
  ·rename_i e;rw[if_neg e];exact h.j3 i (by omega) (by omega) hnw'
 ·rw[if_neg (show i'≠k by omega)];split at hnw'
  ·rename_i e;rw[if_pos e,hjk.2];exact Nat.lt_of_lt_of_le (hnw hnw') (h.j2 i' (by omega))
  ·rename_i e;rw[if_neg e];exact h.j4 i i' (by omega) hii hnw' (by omega) (by omega)
 ·split
  ·rename_i e;subst e;rw[ho] at ho';cases ho';exact hid hb
  ·exact h.idle i o' (by omega) (by omega) ho' hb
 ·split
  ·rename_i e;subst e;rw[ho] at ho';cases ho';exact hrd hb
  ·exact h.reads i o' (by omega) (by omega) ho' hb
 ·split
  ·exact hpn
  ·exact h.pan i (by omega) (by omega)
theorem runQX_chain {K:ASt->Prop} {X:V->ASt->Prop}:∀ (l:List Oper) (k:Nat) (s:ASt),(∀ j,l[j]? = ops[k+j]?)->Neat s->Csts cst s->(∀ o∈l,dstFree cst o=true)->runS C true ops l s K X->∃ sN D,ChainX cst C ops k l.length s sN D/\K sN
 | [],k,s,_,hn,_,_,h=>⟨s,_,.nil hn,h⟩
 | o::l,k,s,hops,hn,hcst,hfree,h=>by
   have hf0:=hfree o List.mem_cons_self;have hf1:∀ o∈l,dstFree cst o=true:=fun o ho=>hfree o (List.mem_cons_of_mem _ ho);have ho:ops[k]? = some o:=by have:=hops 0;simpa using this.symm
   have hops':∀ j,l[j]? = ops[k+1+j]?:=fun j=>by have:=hops (j+1);simpa[Nat.add_assoc,Nat.add_comm 1 j] using this
   unfold runS ZX at h;split at h
   case h_2=>exact h.elim
   rename_i gb hga;obtain⟨hyes,hno⟩:=h;have hgf:JH ops (toMS s).τ o=some gb:=(zK s o).trans hga;cases gb
   ·obtain⟨hd,h⟩:=hno rfl;have hp:=YO s o.dst (.tup []);obtain⟨sN,D,hc,hk⟩:=runQX_chain l (k+1) _ hops' (hn.put o.dst (.tup [])) (hcst.put _ fun _ _ _=>rfl) hf1 h
    let d:Awp.D:=⟨false,.tup [],[],[],[],(s.lv,s.nx),false,none⟩
    exact⟨sN,_,.cons (d:=d) ho ⟨hd,hgf,(by intro h;cases h),fun _=>⟨rfl,rfl,rfl,rfl,rfl,rfl⟩,by simp[d],by simp[d,Qa.keys]⟩ (Jt s o d s rfl fun x=>by simp[d,Qa.keys]) hp.2.2.1 hp.1 (Nat.le_of_eq hp.2.2.2.symm) rfl (by intro h;cases h) (fun _=>⟨rfl,rfl,rfl⟩) (fun _=>⟨rfl,rfl⟩) rfl hc,hk⟩
   ·have h:=hyes rfl;have plain:JC C o s (fun s'=>runS C true ops l s' K X)->∃ sN D,ChainX cst C ops k (l.length+1) s sN D/\K sN:=by
     rintro⟨hd,v,u,hop,h⟩;obtain⟨ro,wi,wo,q1,q2,q3,q4,_,_,q7,q8⟩:=plainX (C:=C) hn hcst hop;have hnx:=hn.upd u;have hp:=YO (({ s with σ:=u.app s.σ (s.lv,s.nx) }:ASt).next u.Wf) o.dst v;obtain⟨sN,D,hc,hk⟩:=runQX_chain l (k+1) _ hops' (hnx.put o.dst v) (Csts.put (s:=({ s with σ:=u.app s.σ (s.lv,s.nx) }:ASt).next u.Wf) hcst v (dst_rp hcst hf0 hop)) hf1 h
     let d:Awp.D:=⟨true,v,ro,wi,wo,(s.lv,s.nx),u.Wf,none⟩
     refine⟨sN,_,.cons (d:=d) ho ⟨hd,hgf,fun _=>by rw[Uq];exact q1,(by intro h;cases h),q2,q3⟩ (Jt s o d (({ s with σ:=u.app s.σ (s.lv,s.nx) }:ASt).next u.Wf) rfl q4) (hp.2.2.1.trans rfl) (hp.1.trans rfl) ?_ rfl ?_ q7 q8 rfl hc,hk⟩
     ·rw[hp.2.2.2];show s.nx<=if u.Wf=true then s.nx+1 else s.nx
      split<;>omega
     ·intro hu;have hu:u.Wf=true:=hu;rw[hp.2.2.2];show s.nx<if u.Wf=true then s.nx+1 else s.nx
      rw[if_pos hu];omega
    unfold ZL at h;split at h
    ·rename_i c hc;split at h
     ·rename_i f hf;obtain⟨hd,fn,first,cap,args,hfv,hvs,args',v,ids,hp,hz,hfl,h⟩:=h;have hpd:=YO ({ s with σ:=s.σ }:ASt) o.dst v;obtain⟨sN,D,hch,hk⟩:=runQX_chain l (k+1) _ hops' (Neat.put (s:={ s with σ:=s.σ }) hn o.dst v) (Csts.put (s:={ s with σ:=s.σ }) hcst v (dst_call hf0 hc v)) hf1 h
      let d:Awp.D:=⟨true,v,Qa.only s.σ ids,[],[],(s.lv,s.nx),false,none⟩
      refine⟨sN,_,.cons (d:=d) ho ⟨hd,hgf,fun _=>?_,(by intro h;cases h),fun x hx=>?_,?_⟩ (Jt s o d { s with σ:=s.σ } rfl fun x=>by simp[d,Qa.keys]) hpd.2.2.1 hpd.1 (Nat.le_of_eq hpd.2.2.2.symm) rfl (by intro h;cases h) (fun hi=>?_) (fun _=>⟨rfl,rfl⟩) rfl hch,hk⟩
      ·rw[Uq];simp only[d,List.append_nil];exact LT.call hc hf hfv hvs hp hz hfl
      ·have hx:x∈Qa.only s.σ ids:=by simpa[d] using hx
       exact (Ze.1 hx).1
      ·simpa[d] using Ym hn.nodup ids
      ·rw[hc] at hi;simp[idleX,WY] at hi
     ·exact plain h
    ·rw[if_neg (by simp)] at h;exact plain h
    ·rw[if_pos rfl] at h;exact h.elim
    ·exact plain h
def regFullX (cst:List Tmp) (ops:List Oper):Bool:=
 let P:=WQ ops []
 uF ops&&(ops.all fun o=>dstFree cst o)&&ops.zipIdx.all fun (o,i)=>ops.zipIdx.all fun (o',i')=>decide (i<=i')||(P.getD i []).contains i' || ((!QG o'.op||idleX cst o.op)&&(!QG o.op||idleX cst o'.op))
theorem aw_regionX {id:Nat} {K:QH->ASt->Prop} {s:ASt} {X:V->ASt->Prop} (hreg:regFullX cst ops.toList=true) (hcst:Csts cst s) (h:runS C true ops ops.toList s (K .normal) X):AW C (.region id ops true) K s:=fun E a hr=>by
 unfold regFullX at hreg;simp only[Bool.and_eq_true] at hreg;obtain⟨⟨hok,hfree⟩,hpairs⟩:=hreg;have hR:=VE hok;rw[Array.toArray_toList] at hR;have hneat:Neat s:=⟨hr.store.nodup,fun k hk hm=>by
  obtain⟨b,_,hb⟩:=hr.store.mem hm;exact hb.born (hr.own k hk)⟩
 obtain⟨sN,D,hc,hk⟩:=runQX_chain (C:=C) (ops:=ops) ops.toList 0 s (fun j=>by simp) hneat hcst (fun o ho=>(List.all_eq_true.1 hfree) o ho) h;rw[Array.length_toList] at hc;have get:∀ {i:Nat} {o:Oper},ops[i]? = some o->(o,i)∈ops.toList.zipIdx:=fun {i o} hi=>by
  refine List.mem_zipIdx_iff_getElem?.2 ?_;simpa using hi
 have pair:∀ i i' o o',i' < i->ops[i]? = some o->ops[i']? = some o'->i'∉(WQ ops.toList []).getD i []->(QG o'.op=false∨idleX cst o.op=true)/\(QG o.op=false∨idleX cst o'.op=true):=fun i i' o o' hlt ho ho' hn=>by
  have h1:=List.all_eq_true.1 hpairs _ (get ho);have h2:=List.all_eq_true.1 h1 _ (get ho');simp only[Bool.or_eq_true,decide_eq_true_eq,List.contains_iff_mem,Bool.and_eq_true,Bool.not_eq_true'] at h2;rcases h2 with (h2|h2)|h2
  ·omega
  ·exact absurd h2 hn
  ·exact h2
 have opAt:∀ i,i<ops.size->∃ o,ops[i]? = some o:=fun i hi=>⟨_,Array.getElem?_eq_getElem hi⟩
 have hD:vR (fun i=>(WQ ops.toList []).getD i []) s.lv D ops.size:=by
  refine⟨fun i i' hlt hi hn id hid=>?_,fun i i' hlt hi hn id hid=>?_,fun i i' hi hi' hne hw hw' e=>?_,fun i _=>hc.j1 i⟩
  ·obtain⟨o,ho⟩:=opAt i hi;obtain⟨o',ho'⟩:=opAt i' (by omega);rcases (pair i i' o o' hlt ho ho' hn).1 with hq|hq
   ·obtain⟨e1,e2⟩:=hc.reads i' o' (Nat.zero_le _) (by omega) ho' hq;rw[e1,e2] at hid;simp[Qa.keys] at hid
   ·obtain⟨e1,e2,e3⟩:=hc.idle i o (Nat.zero_le _) (by omega) ho hq;rw[e1,e2,e3];simp[Qa.keys]
  ·obtain⟨o,ho⟩:=opAt i hi;obtain⟨o',ho'⟩:=opAt i' (by omega);rcases (pair i i' o o' hlt ho ho' hn).2 with hq|hq
   ·obtain⟨e1,e2⟩:=hc.reads i o (Nat.zero_le _) (by omega) ho hq;rw[e1,e2] at hid;simp[Qa.keys] at hid
   ·obtain⟨e1,e2,e3⟩:=hc.idle i' o' (Nat.zero_le _) (by omega) ho' hq;rw[e1];simp[Qa.keys]
  ·rcases Nat.lt_or_gt_of_ne hne with hlt|hlt
   ·have:=hc.j4 i i' (Nat.zero_le _) hlt hw (by omega) (by omega);rw[e] at this;omega
   ·have:=hc.j4 i' i (Nat.zero_le _) hlt hw' (by omega) (by omega);rw[e] at this;omega
 refine wp_region_any C.mixed ?_;have hrm:RelM C s.n s.lv (toMS s) E.bump a:=⟨fun t v hv=>(hr.tmp t v hv).mono ZJ,hr.size,⟨s.σ,VX hr.store,fun x=>Iff.rfl⟩,hr.glob.mono ZJ⟩
 have hfin:=qc (C:=C) (ops:=ops) (N:=s.n) (lv:=s.lv) hR hD (Q:=fun e a' w'=>∃ E' ae s',Post C K s E a e a' w' E' ae s') (List.range' 0 ops.size) (Array.replicate ops.size false) (toMS s) E.bump a ?_ (by simp) ?_ ?_ hrm hc.en ?_ (fun i hi=>hc.pan i (Nat.zero_le _) (by have:=(List.mem_range'_1.1 hi).2;omega)) ?_
 ·rw[List.length_range'] at hfin;exact hfin
 ·intro i;rw[List.mem_range'_1];constructor
  ·intro hi;have:i<ops.size:=by omega
   exact⟨this,by simp[this]⟩
  ·rintro⟨hi,_⟩;omega
 ·exact List.pairwise_lt_range'
 ·intro i hi hli;simp[hi] at hli
 ·intro i hi hw hnw;have hj1:=hc.j1 i;have hj2:=hc.j2 i (Nat.zero_le _);have:(D i).j=(s.lv,(D i).j.2):=by rw[<- hj1]
  rw[this];exact hr.own _ hj2
 ·intro E' a' hrm' hg hd hb;rw[hc.app] at hrm' hg;obtain⟨σ',hst',hmem'⟩:=hrm'.store;have hrel:Rel C sN E' a':=by
   refine⟨hrm'.tmp,by rw[hc.n];exact hrm'.size,hst'.part (fun x hx=>(hmem' x).2 hx) hc.neat.nodup,fun k hk=>?_,hrm'.glob⟩;rw[hc.lv];refine hb (s.lv,k) (Nat.le_refl _) (fun i hi hnw e=>?_) (hr.own k (Nat.le_trans hc.nx hk));have hi':=(List.mem_range'_1.1 hi).2;have:=hc.j3 i (Nat.zero_le _) hi' hnw;rw[<- e] at this;simp only at this;omega
  refine⟨E',.normal,sN,rfl,.normal,hk,hrel,qb.trans (hg s.σ sN.σ (fun _=>Iff.rfl) (fun _=>Iff.rfl)),hd,hc.lv,fun id hi hu=>hb id (by omega) (fun i _ _ e=>?_) hu⟩;have:=hc.j1 i;rw[<- e] at this;omega
theorem wait_regionX {K:QH->ASt->Prop} {st:List Fr} {id:Nat} {l:List Oper} {s:ASt} (cst:List Tmp) (hreg:regFullX cst l=true) (hcst:Csts cst s) (h:go C 1000000 (.ops l.toArray l) (.draw::st) K s):Wait C (.region id l.toArray true) st K s:=fun _ hst=>by
 refine aw_regionX (cst:=cst) (X:=fun v=>unst C (.draw::st) K (.panic v)) hreg hcst ?_;exact go_sound 1000000 (.ops l.toArray l) (.draw::st) K s (fun c e=>by cases e) hst h
end
end Go.Awp
