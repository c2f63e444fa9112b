/- AWP, text 22: turns of the description; helpers for walks. -/
import Derived.Test.YtnielafbkgpgjaaGreatDoorX11
import Derived.ChangeArms
import Derived.Carry
import Derived.DataElems
import Derived.OpenShut
import Derived.LaidMore
import Derived.Stop.LaidErr
set_option linter.all false
set_option maxRecDepth 100000
set_option maxHeartbeats 8000000
namespace Go.Awp
open Go
attribute [simp] litR lkA allV List.lookup_cons Option.bind_some Option.map_some ofV ofS Uo binV unV QEq YH vE qo litV WO eqV eqFs JW vm Xh fitV setL Qa.get V.cells V.wf V.scalar Qa.put Uc uN QN Whw yg lenR idxR appR appV appS srcZ Wcw srcV winV cutR cutR.cutW cutV cutS cut0 bndV Wgq QDw jW updR Ws XS setM Jd JT Vn Qa.less Qa.keys V.flat V.zP pickV
section
variable {C:Ctx} {K:QH->ASt->Prop} {st:List Fr} {τ:List (Nat × V)} {σ:Qa} {N lv nx:Nat}
theorem Qw {c:Code} {s s':ASt} (ht:Turn C s s') (h:Wait C c st K s'):Wait C c st K s:=fun h1 h2=>Qew ht (h h1 h2)
theorem WM {t el sz:Nat} (h:τ.lookup t=some .snil) (h0:0<sz):Turn C ⟨τ,σ,N,lv,nx⟩ ⟨(t,.vec (lv,nx) 0)::τ,((lv,nx),.vec el sz [] 0 true)::σ,N,lv,nx+1⟩:=fun E a hr=>by
 have hrep:=hr.tmp t _ h;obtain⟨ad,hcv⟩:∃ ad,a.tmps.getD t undef = .slice ad 0 0:=by
  revert hrep;generalize a.tmps.getD t undef=y;intro hy;cases hy;exact⟨_,rfl⟩
 have hj:E.ι (lv,nx) = .unborn:=hr.own nx (Nat.le_refl _);obtain⟨h1,h2,h3⟩:=thaw hr.store hj el sz h0 ad;refine⟨⟨E.I,fun i=>if i=(lv,nx) then .vec (.slice ad 0 0) 0 else E.ι i,E.w⟩,rfl,⟨fun u v hu=>?_,hr.size,h1,fun k hk=>?_,hr.glob.mono h2.le⟩,h2,rfl,fun id hi hu=>h3 id (fun e=>by subst e;exact Nat.lt_irrefl _ hi) hu⟩
 ·have hu:List.lookup u ((t,V.vec (lv,nx) 0)::τ)=some v:=hu;rw[List.lookup_cons] at hu;split at hu
  ·rename_i e;have e:=eq_of_beq e;cases hu;subst e;rw[hcv];exact .vec (by simp) (Nat.le_refl _) fun _=>rfl
  ·exact (hr.tmp u v hu).mono h2.le
 ·have hk:nx+1<=k:=hk;exact h3 (lv,k) (fun e=>by cases e;omega) (hr.own k (by show nx<=k;omega))
theorem Uf {t id ver z len el:Nat} {j:Nat} {es:List V} (h:τ.lookup t=some (.vsub (id,j) ver z 0 len)) (hg:σ.get (id,j)=some (.vec el z es ver true)) (hl:len<=es.length):
 Turn C ⟨τ,σ,N,lv,nx⟩ ⟨(t,.vec (id,j) (ver+1))::τ,σ.put (id,j) (.vec el z (es.take len) (ver+1) true),N,lv,nx⟩:=fun E a hr=>by
 have hrep:=hr.tmp t _ h;have hm:=Qa.get_mem hg;obtain⟨hv,xs,eι,hown,hxs,hes,h0,hI⟩:=hr.store.blk _ _ hm;obtain⟨ad,c,hcv,b,n,c0,rfl,q1,q2,q3,q4⟩:∃ ad c,a.tmps.getD t undef = .slice ad len c/\∃ b n c0,hv = .slice b n c0/\0+len<=n/\n<=c0/\c=c0 - 0/\(0<c0->ad=b.map (·.add (0*z))):=by
  revert hrep;generalize a.tmps.getD t undef=y;intro hy;cases hy with
  | vsub h1 h2 h3=>rw[eι] at h1;cases h1;exact⟨_,_,rfl,h3 rfl⟩
 have hxl:xs.length=es.length*z:=hown.1;have hmul:len*z<=es.length*z:=Nat.mul_le_mul_right _ hl;have hec:∀ e∈es,e.cells.length=z:=fun e he=>(hes e he).1;have hlen:(es.take len).length=len:=by simp;omega
 have hnew:Owns E.w el z (.slice ad len c) len (xs.take (len*z))/\hblk (.slice ad len c)=hblk (.slice b n c0):=by
  refine⟨⟨by simp;omega,?_⟩,?_⟩
  ·rcases hown.2 with⟨a1,e1,e2⟩|⟨g,cap,cur,hc0,e1,hg',hcap,hmax,hcs,htk⟩
   ·injection e1 with e3 e4 e5;have e6:c=0:=by omega
    have e7:len=0:=by omega
    subst e6;subst e7;exact .inl ⟨ad,rfl,rfl⟩
   ·cases e1;have:=q4 hc0;simp only[Option.map_some,Addr.add_mid,Nat.zero_mul,Nat.zero_add] at this;subst this;refine .inr ⟨g,c,cur,by omega,rfl,hg',by omega,by omega,by rw[hcs];congr 1;omega,?_⟩;rw[<- htk,List.take_take,Nat.min_eq_left hmul]
  ·rcases hown.2 with⟨a1,e1,e2⟩|⟨g,cap,cur,hc0,e1,_⟩
   ·injection e1 with e3 e4 e5;have e6:c=0:=by omega
    subst e5;subst e6;cases ad<;>cases b<;>simp[hblk]
   ·cases e1;have:=q4 hc0;simp only[Option.map_some,Addr.add_mid,Nat.zero_mul,Nat.zero_add] at this;subst this;have:c=c0:=by omega
    subst this;rfl
 have hnoI:∀ q,(E.ι (id,j)).block=some q->∀ o,¬ E.I q o:=fun q hq o hi=>by
  rw[eι] at hq;have:=(hI q hq o hi).1;cases this
 have key:=Vd hr.store hm (.slice ad len c) (ver+1) E.w (k':=.vec el z (es.take len) (ver+1) true) (by rw[eι];exact⟨_,_,rfl,Nat.le_succ _,fun e=>absurd e (by omega)⟩) rfl rfl rfl (Nat.le_refl _)
  (fun _ _ _=>rfl) (fun q hq o hi=>absurd hi (hnoI q hq o)) (fun q hq=>.inl (by rw[eι];rw[hnew.2] at hq;exact hq))
 obtain⟨g1,g2,g3⟩:=key fun hle=>by
  refine⟨.slice ad len c,xs.take (len*z),by simp,by rw[hlen];exact hnew.1,?_,fun e he=>hes e (List.mem_of_mem_take he),h0,fun q hq o hi=>?_⟩
  ·rw[Vp hec];exact (hxs.take _).mono hle
  ·refine absurd hi (hnoI q ?_ o);rw[eι];rw[hnew.2] at hq;exact hq
 refine⟨⟨E.I,fun i=>if i=(id,j) then .vec (.slice ad len c) (ver+1) else E.ι i,E.w⟩,rfl,⟨fun u v hu=>?_,hr.size,g1,fun k hk=>g3 _ (hr.own k hk),hr.glob.mono g2.le⟩,g2,rfl,fun i _ hu=>g3 i hu⟩;have hu:List.lookup u ((t,V.vec (id,j) (ver+1))::τ)=some v:=hu;rw[List.lookup_cons] at hu;split at hu
 ·rename_i e;have e:=eq_of_beq e;cases hu;subst e;rw[hcv];exact .vec (by simp) (Nat.le_refl _) fun _=>rfl
 ·exact (hr.tmp u v hu).mono g2.le
theorem wr1 (k:Nat) (h:k<9223372036854775807):IntKind.i64.wrap ((k:Int)+1)=(k:Int)+1:=wrap_i64 (by omega) (by omega)
end
theorem ent {C:Ctx} {f:FuncId} {fn:Func} {c:Code} {n:Nat} {rs:List ResultVar} {args:List V} {σ:Qa} {R:Nat->AOut->Qa->Prop} (hf:C.P.funcs[f]? = some fn)
 (h:∀ L K,(∀ id,id∈σ.keys->id.1<L)->(∀ s,ZV C rs L R s->K .ret s)->(∀ s,ZV C rs L R s->K .normal s)->
   (∀ s v v' σd σk,(∀ x,x∈σk->x∈s.σ)->(∀ x,x∈σd->x∈s.σ)->(Qa.keys σk).Nodup->(∀ id,id∈Qa.keys σk->id∉Qa.keys σd)->Frz σd v v'->R L (.pan v') σk->K (.panic v) s)->
   go C 1000000 (.code c) [] K ⟨Uc 0 args,σ,n,L,0⟩) (hb:fn.body=some c:=by exact rfl) (hnt:fn.ntmps=n:=by exact rfl) (hrs:fn.results.toList=rs:=by exact rfl)
 (hname:(fn.name == "runtime.NumGoroutine")=false:=by decide) (hn:args.length<=n:=by exact Nat.le_of_ble_eq_true rfl) (hcode:codeOk C.ex c=true:=by kernel_rfl):AFn C f args σ R:=afn_enter hf hb hnt hrs hname hn hcode h
theorem twk {C:Ctx} {s:ASt} {τ':List (Nat × V)} {σ':Qa} (hτ:∀ p,p∈τ'->s.τ.lookup p.1=some p.2:=by simp) (hσ:∀ x,x∈σ'->x∈s.σ:=by simp) (hn:s.σ.keys.Nodup->σ'.keys.Nodup:=by simp):Turn C s { s with τ:=τ',σ:=σ' }:=Qb hτ hσ hn
theorem Qc {C:Ctx} {n:Nat} {st:List Fr} {K:QH->ASt->Prop} {τ:List (Nat × V)} {σ:Qa} {N lv nx:Nat} {v:V} {ops:Array Oper} {r:List Oper} {f:FuncId} {args:List V} {t:Nat} (h:Ql C f args v) (hk:go C n (.ops ops r) st K ⟨(t,v)::τ,σ,N,lv,nx⟩) (ht:t<N:=by decide):Qe C n f args (some t) ops r st K ⟨τ,σ,N,lv,nx⟩:=.pure h ht hk
theorem gE {α:Type} {l:List α} {k:Nat} (h:k<l.length):∃ x,l[k]? = some x:=⟨_,List.getElem?_eq_getElem h⟩
theorem gS {α:Type} {l:List α} {k:Nat} {x:α} (h:l[k]? = some x):∃ h:k<l.length,l[k]=x:=List.getElem?_eq_some_iff.1 h
theorem llu (L:Nat) {M:Nat} (h:L<M):L<M/\¬ M=L/\¬ L=M:=by omega
theorem il {k n:Nat} (h:k<n):(0:Int)<=(k:Int)/\(k:Int)<(n:Int):=by omega
theorem wr2 (k:Nat) (h:k<9223372036854775807:=by omega):IntKind.i64.wrap ((k:Int)+1)=(k:Int)+1:=wrap_i64 (by omega) (by omega)
inductive FrzB (σd:Qa):Blk->Blk->Prop
 | cells {t:TypeId} {cs cs':List V} (h:FrzL σd cs cs'):FrzB σd (.cells t cs) (.cells t cs')
 | vec {t:TypeId} {s:Nat} {es es':List V} {ver:Nat} {wr:Bool} (h:FrzL σd es es'):FrzB σd (.vec t s es ver wr) (.vec t s es' ver wr)
 | map {ks vs ks' vs':List V} {clk:Nat} (h:FrzL σd ks ks') (k:FrzL σd vs vs'):FrzB σd (.map ks vs clk) (.map ks' vs' clk)
theorem FrzB.refl {σd:Qa}:∀ b:Blk,FrzB σd b b
 | .cells _ cs=>.cells (Qn cs)
 | .vec _ _ es _ _=>.vec (Qn es)
 | .map ks vs _=>.map (Qn ks) (Qn vs)
inductive FrzS (σd:Qa):Qa->Qa->Prop
 | nil:FrzS σd [] []
 | cons {id:Id} {b b':Blk} {σ σ':Qa} (h:FrzB σd b b') (k:FrzS σd σ σ'):FrzS σd ((id,b)::σ) ((id,b')::σ')
theorem FrzS.refl {σd:Qa}:∀ σ:Qa,FrzS σd σ σ
 | []=>.nil
 | (_,b)::σ=>.cons (.refl b) (.refl σ)
theorem FrzS.keys {σd σ σ':Qa} (h:FrzS σd σ σ'):σ'.keys=σ.keys:=by
 induction h with
 | nil=>rfl
 | cons h k ih=>simp only[Qa.keys,List.map_cons] at ih ⊢;rw[ih]
theorem FrzS.mem {σd σ σ':Qa} (h:FrzS σd σ σ') {id:Id} {b':Blk} (hm:(id,b')∈σ'):∃ b,(id,b)∈σ/\FrzB σd b b':=by
 induction h with
 | nil=>cases hm
 | cons h k ih=>
   rcases List.mem_cons.1 hm with e|hm
   ·cases e;exact⟨_,List.mem_cons_self,h⟩
   ·obtain⟨b,hb,hk⟩:=ih hm;exact⟨b,List.mem_cons_of_mem _ hb,hk⟩
section
variable {C:Ctx} {E:Amb}
theorem UY {σ:Qa} (hs:∀ id b,(id,b)∈σ->Wd E id b):∀ {vs vs':List V},FrzL σ vs vs'->Qhw E (E.sealed σ) vs vs'
 | [],_,h=>by cases h;exact⟨fun _ h=>h.mono ZI,fun _ h=>h.mono ZI,rfl,fun _ h=>h,fun h=>h⟩
 | v::vs,_,h=>by
   cases h with|cons h k=>
   have i1:=Wew hs h;have i2:=UY hs k;refine⟨fun cvs hr=>?_,fun cvs hr=>?_,by simp[i2.len],fun s hs e he=>?_,fun hs e he=>?_⟩
   ·cases hr with|cons a b=>exact .cons (i1.rep _ a) (i2.rep _ b)
   ·simp only[List.flatMap_cons] at hr ⊢;obtain⟨a,b,rfl,ha,hb⟩:=hr.split;exact (i1.cells _ ha).append (i2.flat _ hb)
   ·rcases List.mem_cons.1 he with rfl|he
    ·have:=hs _ List.mem_cons_self;exact⟨i1.len.trans this.1,i1.ok this.2⟩
    ·exact i2.elems s (fun e he=>hs e (List.mem_cons_of_mem _ he)) e he
   ·rcases List.mem_cons.1 he with rfl|he
    ·exact i1.scal (hs _ List.mem_cons_self)
    ·exact i2.scal (fun e he=>hs e (List.mem_cons_of_mem _ he)) e he
theorem Wd.frz {σd:Qa} (hs:∀ id b,(id,b)∈σd->Wd E id b) {id:Id} {b b':Blk} (h:Wd E id b) (hk:Wd (E.sealed σd) id b) (hf:FrzB σd b b'):Wd (E.sealed σd) id b':=by
 cases hf with
 | cells hf=>
   obtain⟨g,c,e,hg,hr,hsc,hi⟩:=h;obtain⟨g',c',e',hg',hr',hsc',hi'⟩:=hk;have e1:E.ι id = .cells g':=e';rw[e] at e1;cases e1;have q:=UY hs hf;exact⟨g,c,e,hg,q.rep _ hr,q.scal hsc,hi'⟩
 | vec hf=>
   obtain⟨hv,xs,e,ho,hr,hes,h0,hi⟩:=h;obtain⟨hv',xs',e',ho',hr',hes',h0',hi'⟩:=hk;have e1:E.ι id = .vec hv' _:=e';rw[e] at e1;cases e1;have q:=UY hs hf;exact⟨hv,xs,e,by rw[q.len];exact ho,q.flat _ hr,q.elems _ hes,h0,by rw[q.len];exact hi'⟩
 | map hf hf2=>
   obtain⟨g,es,e,hg,h1,h2,hi⟩:=h;obtain⟨g',es',e',hg',h1',h2',hi'⟩:=hk;have e1:E.ι id = .cells g':=e';rw[e] at e1;cases e1;exact⟨g,es,e,hg,(UY hs hf).rep _ h1,(UY hs hf2).rep _ h2,hi'⟩
theorem Qwq:∀ (l:List (Nat × V)) t v,l.lookup t=some v->(t,v)∈l:=fun l t v h=>by
 induction l with
 | nil=>cases h
 | cons x l ih=>
   obtain⟨k,u⟩:=x;simp only[List.lookup_cons] at h;split at h
   ·rename_i e;have e:=eq_of_beq e;cases h;subst e;exact List.mem_cons_self
   ·exact List.mem_cons_of_mem _ (ih h)
theorem Vg {s:ASt} (σd σk:Qa) {τ':List (Nat × V)} {σ':Qa} (hτ:∀ p,p∈τ'->∃ v,s.τ.lookup p.1=some v/\Frz σd v p.2)
 (hk:∀ x,x∈σk->x∈s.σ) (hd:∀ x,x∈σd->x∈s.σ) (hkn:s.σ.keys.Nodup->σk.keys.Nodup) (hdis:s.σ.keys.Nodup->∀ id,id∈σk.keys->id∉σd.keys) (hσ:FrzS σd σk σ'):
 Turn C s { s with τ:=τ',σ:=σ' }:=fun E a hr=>by
 have hblkd:∀ id b,(id,b)∈σd->Wd E id b:=fun id b hm=>hr.store.blk id b (hd _ hm);obtain⟨q1,q2⟩:=Jy hr.store hk hd (hkn hr.store.nodup) (hdis hr.store.nodup);have hkeys:=hσ.keys;have q3:Qk (E.sealed σd) σ':=by
  refine⟨fun id b hm=>?_,by rw[hkeys];exact q1.nodup,by rw[hkeys];exact q1.apart,q1.imm,q1.fin⟩;obtain⟨b0,hm0,hf⟩:=hσ.mem hm;exact (hr.store.blk id b0 (hk _ hm0)).frz hblkd (q1.blk id b0 hm0) hf
 refine⟨E.sealed σd,rfl,⟨fun t v hv=>?_,hr.size,q3,hr.own,hr.glob.mono q2.le⟩,q2.drop fun id hi=>by rw[hkeys] at hi;exact hi,rfl,fun _ _ h=>h⟩;obtain⟨u,hu,hz⟩:=hτ _ (Qwq _ _ _ hv);exact wg hr.store hd hz _ (hr.tmp _ _ hu)
theorem Qk.swap {σ:Qa} (h:Qk E σ) {id:Id} {b':Blk} (hb:Wd E id b'):Qk E (σ.put id b'):=by
 refine⟨fun i b hm=>?_,by rw[Qa.XM];exact h.nodup,by rw[Qa.XM];exact h.apart,h.imm,h.fin⟩;rcases Qa.jg hm with e|⟨hm,_⟩
 ·cases e;exact hb
 ·exact h.blk _ _ hm
section
variable {τ:List (Nat × V)} {σ:Qa} {N lv nx:Nat}
theorem jG {vs:List V} {cvs:List Value} {i:Nat} {v v':V} (h:RepL E vs cvs) (hi:vs[i]? = some v) (hv:∀ cv,cvs[i]? = some cv->Rep E v' cv):RepL E (vs.set i v') cvs:=by
 obtain⟨cv,hc,_⟩:=h.get hi;have h2:=h.set i (hv cv hc);obtain⟨hlt,he⟩:=List.getElem?_eq_some_iff.1 hc
 rwa [show cvs.set i cv=cvs from by rw[<- he];exact List.set_getElem_self hlt] at h2
theorem vY {id:Id} {b b':Blk} {el sz:Nat} (hg:σ.get id=some b) (h0:0<sz)
 (ha:∀ E,Wd E id b->∃ ad,∀ E',E.Le E'->E'.w=E.w->E'.I=E.I->E'.ι id=E.ι id->E'.ι (lv,nx) = .vec (.slice ad 0 0) 0->Wd E' id b'):
 Turn C ⟨τ,σ,N,lv,nx⟩ ⟨τ,((lv,nx),.vec el sz [] 0 true)::σ.put id b',N,lv,nx+1⟩:=fun E a hr=>by
 have hm:=Qa.get_mem hg;have hb:=hr.store.blk _ _ hm;obtain⟨ad,ha⟩:=ha E hb;have hj:E.ι (lv,nx) = .unborn:=hr.own nx (Nat.le_refl _);have hne:(lv,nx)≠id:=fun e=>hb.born (e▸hj);obtain⟨h1,h2,h3⟩:=thaw hr.store hj el sz h0 ad
 let E':Amb:=⟨E.I,fun i=>if i=(lv,nx) then .vec (.slice ad 0 0) 0 else E.ι i,E.w⟩
 have hb':Wd E' id b':=ha E' h2.le rfl rfl (by simp[E',Ne.symm hne]) (by simp[E']);have q:=h1.swap hb';have hput:Qa.put (((lv,nx),Blk.vec el sz [] 0 true)::σ) id b' = ((lv,nx),Blk.vec el sz [] 0 true)::σ.put id b':=by
  rw[Qa.put,if_neg hne]
 rw[hput] at q;refine⟨E',rfl,⟨fun u v hu=>(hr.tmp u v hu).mono h2.le,hr.size,q,fun k hk=>?_,hr.glob.mono h2.le⟩,h2.drop fun i hi=>?_,rfl,fun id hi hu=>h3 id (fun e=>by subst e;exact Nat.lt_irrefl _ hi) hu⟩
 ·have hk:nx+1<=k:=hk;exact h3 (lv,k) (fun e=>by cases e;omega) (hr.own k (by show nx<=k;omega))
 ·have e:Qa.keys (((lv,nx),Blk.vec el sz [] 0 true)::σ.put id b')=Qa.keys (((lv,nx),Blk.vec el sz [] 0 true)::σ):=by
   have:=Qa.XM σ id b';simp only[Qa.keys,List.map_cons] at this ⊢;rw[this]
  rw[e] at hi;exact hi
theorem Qmw {cv:Value} (h:Rep E .snil cv):∃ ad,cv = .slice ad 0 0:=by cases h;exact⟨_,rfl⟩
theorem Xf {id:Id} {t o el sz:Nat} {cs:List V} (hg:σ.get id=some (.cells t cs)) (ho:cs[o]? = some .snil) (h0:0<sz):
 Turn C ⟨τ,σ,N,lv,nx⟩ ⟨τ,((lv,nx),.vec el sz [] 0 true)::σ.put id (.cells t (cs.set o (.vec (lv,nx) 0))),N,lv,nx+1⟩:=by
 refine vY hg h0 fun E hb=>?_;obtain⟨b,c,e,hh,hr,hsc,hi⟩:=hb;obtain⟨cv,hcv,hrep⟩:=hr.get ho;obtain⟨ad,rfl⟩:=Qmw hrep;refine⟨ad,fun E' hle hw hI hid hι=>⟨b,c,by rw[hid,e],by rw[hw];exact hh,jG (hr.mono hle) ho fun cv h2=>?_,fun x hx=>?_,by rw[hI];exact hi⟩⟩
 ·rw[hcv] at h2;cases h2;exact .vec hι (Nat.le_refl _) fun _=>rfl
 ·rcases List.mem_or_eq_of_mem_set hx with hx|rfl
  ·exact hsc x hx
  ·rfl
end
end
section
variable {C:Ctx} {P:Program}
variable {K:QH->ASt->Prop} {st:List Fr} {τ:List (Nat × V)} {σ:Qa} {N lv nx:Nat}
end
attribute [simp] wrap_i64
@[simp] theorem nn1 (k:Nat):(0:Int)<=(k:Int)+1:=by omega
theorem wrN (k:Nat) (h:k<=9223372036854775807):IntKind.i64.wrap (k:Int)=k:=wrap_i64 (by omega) (by omega)
section
variable {C:Ctx} {rs:List ResultVar} {L:Nat} {s:ASt} {R:Nat->AOut->Qa->Prop} {v v':V} {vs:List V}
theorem ZV.keep (σd σk:Qa) (h:Qf C.P s rs=some [v]) (hk:∀ x,x∈σk->x∈s.σ) (hd:∀ x,x∈σd->x∈s.σ)
 (hn:(Qa.keys σk).Nodup) (hdis:∀ id,id∈Qa.keys σk->id∉Qa.keys σd) (hz:Frz σd v v') (hR:R L (.ret v') σk):ZV C rs L R s:=⟨[v],v',σd,σk,h,hk,hd,hn,hdis,hz,hR⟩
theorem ZV.keeps (σd σk:Qa) (h:Qf C.P s rs=some vs) (hl:vs.length≠1) (hk:∀ x,x∈σk->x∈s.σ) (hd:∀ x,x∈σd->x∈s.σ)
 (hn:(Qa.keys σk).Nodup) (hdis:∀ id,id∈Qa.keys σk->id∉Qa.keys σd) (hz:Frz σd (.tup vs) v') (hR:R L (.ret v') σk):ZV C rs L R s:=by
 refine⟨vs,v',σd,σk,h,hk,hd,hn,hdis,?_,hR⟩
 match vs,hl with
 | [],_=>exact hz
 | _::_::_,_=>exact hz
end
def Va (C:Ctx) (f:FuncId) (args:List V) (p:V->Prop):Prop:=AFn C f args [] fun _ o σ'=>∃ v,p v/\o = .ret v/\σ' = []
section
variable {C:Ctx} {rs:List ResultVar} {L:Nat} {s:ASt} {v v':V} {p:V->Prop}
theorem ZV.ZN (h:Qf C.P s rs=some [v]) (hz:Frz s.σ v v') (hp:p v'):ZV C rs L (fun _ o σ'=>∃ v,p v/\o = .ret v/\σ' = []) s:=
 ⟨_,v',s.σ,[],h,by simp,fun _ h=>h,by simp[Qa.keys],by simp[Qa.keys],hz,v',hp,rfl,rfl⟩
theorem Qe.ZN {K:QH->ASt->Prop} {st:List Fr} {n:Nat} {ops:Array Oper} {r:List Oper} {τ:List (Nat × V)} {σ:Qa} {N lv nx:Nat} {f:FuncId} {args:List V} {t:Nat} (h:Va C f args p) (ht:t<N) (hq:quiet st=false)
 (hk:∀ v,p v->go C n (.ops ops r) st K ⟨(t,v)::τ,σ,N,lv,nx⟩):Qe C n f args (some t) ops r st K ⟨τ,σ,N,lv,nx⟩:=by
 refine Qe.gen h (by simp) (by simp[Qa.keys]) ht hq ?_ ?_
 ·rintro L' v σ' _ _ ⟨u,hp,e,rfl⟩;cases e;rw[Qa.Zh];exact hk _ hp
 ·rintro L' v σ' _ _ ⟨u,hp,e,rfl⟩;cases e
end
theorem zM {σ:Qa} {a a' b b':List V} (h:FrzL σ a a') (k:FrzL σ b b'):FrzL σ (a++b) (a' ++ b'):=by
 induction a generalizing a' with
 | nil=>cases h;exact k
 | cons x a ih=>cases h with|cons h t=>exact .cons h (ih t)
section
variable {C:Ctx}
theorem frzL_repr {E:Amb} {σ σd:Qa} (hs:Qk E σ) (hd:∀ x,x∈σd->x∈σ) {vs vs':List V} (h:FrzL σd vs vs') {cvs:List Value} (hr:RepL E vs cvs):RepL (E.sealed σd) vs' cvs:=
 (UY (fun id b hm=>hs.blk id b (hd _ hm)) h).rep cvs hr
theorem acall_frz {f:FuncId} {args args':List V} {s:ASt} {K X:V->Qa->Prop} {σin:Qa} {R:Nat->AOut->Qa->Prop} (σd:Qa) (h:AFn C f args' σin R) (hz:FrzL σd args args') (hd:∀ x,x∈σd->x∈s.σ)
 (hs:∀ x,x∈σin->x∈s.σ.less σd) (hn:σin.keys.Nodup)
 (hk:∀ L o σ',s.lv<L->(∀ id,id∈s.σ.keys->id.1<L)->R L o σ'->match o with|.ret v=>K v (σ' ++ (s.σ.less σd).less σin)|.pan v=>X v (σ' ++ (s.σ.less σd).less σin)):vW C f args s K X:=by
 refine⟨h.1,fun E cargs hst hg ha=>?_⟩;have hk1:∀ x,x∈s.σ.less σd->x∈s.σ:=fun x hx=>(Qa.WV.1 hx).1;have hn1:(s.σ.less σd).keys.Nodup:=Qa.Yp hst.nodup;have hdis:∀ id,id∈(s.σ.less σd).keys->id∉σd.keys:=fun id hi=>by
  obtain⟨x,hx,rfl⟩:=List.mem_map.1 hi;exact (Qa.WV.1 hx).2
 obtain⟨q1,q2⟩:=Jy hst hk1 hd hn1 hdis;obtain⟨L,hlv,hL⟩:=Uw hst.fin s.lv;have hkeys:∀ id,id∈s.σ.keys->id.1<L:=fun id hi=>by
  obtain⟨k,_,hk⟩:=hst.mem hi;exact Nat.lt_of_not_le fun hle=>hk.born (hL id hle)
 have ha':=frzL_repr hst hd hz ha;refine (h.2 (E.sealed σd) cargs L (q1.part hs hn) (hg.mono ZI) ha' hL).mono ?_;rintro e w' ⟨E',o,σ',hw,hR,ho,hs',hg',hb⟩;obtain⟨f1,f2⟩:=frame q1 hs (fun x hx=>(Qa.WV.1 hx).1) (fun id hi=>by
  obtain⟨x,hx,rfl⟩:=List.mem_map.1 hi;exact (Qa.WV.1 hx).2) (Qa.Yp q1.nodup) hs' hg'
 have hk':=hk L o σ' hlv hkeys hR;refine⟨E',hw,fun id hi hu=>hb id (by omega) hu,?_⟩;cases ho with
 | ret hv=>exact .inl ⟨_,_,_,rfl,hv,hk',f1,q2.trans f2⟩
 | pan hv=>exact .inr ⟨_,_,_,rfl,hv,hk',f1,q2.trans f2⟩
variable {K:QH->ASt->Prop} {st:List Fr} {n:Nat} {ops:Array Oper} {r:List Oper} {τ:List (Nat × V)} {σ:Qa} {N lv nx:Nat}
theorem Qe.frz {f:FuncId} {args args':List V} {t:Nat} {σin:Qa} {R:Nat->AOut->Qa->Prop} (σd:Qa) (h:AFn C f args' σin R) (hz:FrzL σd args args') (hd:∀ x,x∈σd->x∈σ)
 (hs:∀ x,x∈σin->x∈σ.less σd) (hn:σin.keys.Nodup) (ht:t<N) (hq:quiet st=false)
 (hk:∀ L v σ',lv<L->(∀ id,id∈σ.keys->id.1<L)->R L (.ret v) σ'->go C n (.ops ops r) st K ⟨(t,v)::τ,σ' ++ (σ.less σd).less σin,N,lv,nx⟩)
 (hp:∀ L v σ',lv<L->(∀ id,id∈σ.keys->id.1<L)->R L (.pan v) σ'->K (.panic v) ⟨τ,σ' ++ (σ.less σd).less σin,N,lv,nx⟩):Qe C n f args (some t) ops r st K ⟨τ,σ,N,lv,nx⟩:=by
 unfold Qe;rw[hq];refine acall_frz (s:=⟨τ,σ,N,lv,nx⟩) σd h hz hd hs hn fun L o σ' h1 h2 h3=>?_;cases o with
 | ret v=>exact⟨by simpa[WW] using ht,hk L v σ' h1 h2 h3⟩
 | pan v=>exact hp L v σ' h1 h2 h3
theorem Qe.frzP {f:FuncId} {args args':List V} {t:Nat} {v:V} (σd:Qa) (h:Ql C f args' v) (hz:FrzL σd args args') (hd:∀ x,x∈σd->x∈σ) (ht:t<N) (hq:quiet st=false)
 (hk:go C n (.ops ops r) st K ⟨(t,v)::τ,σ.less σd,N,lv,nx⟩):Qe C n f args (some t) ops r st K ⟨τ,σ,N,lv,nx⟩:=by
 refine Qe.frz σd h hz hd (by simp) (by simp[Qa.keys]) ht hq ?_ ?_
 ·rintro L v' σ' _ _ ⟨e,rfl⟩;cases e;rw[Qa.Zh];exact hk
 ·rintro L v' σ' _ _ ⟨e,rfl⟩;cases e
end
theorem AFn.ctx {C C':Ctx} (hP:C.P=C'.P) (hG:C.G=C'.G) {f:FuncId} {args:List V} {σ:Qa} {R:Nat->AOut->Qa->Prop} (h:AFn C f args σ R):AFn C' f args σ R:=by
 obtain⟨P,G,ex,m,own⟩:=C;obtain⟨P',G',ex',m',own'⟩:=C';simp only at hP hG;subst hP;subst hG;exact h
@[simp] theorem litR2:([0,1]=List.range 2)=True:=by decide
@[simp] theorem litR3:([0,1,2]=List.range 3)=True:=by decide
@[simp] theorem litR4:([0,1,2,3]=List.range 4)=True:=by decide
@[simp] theorem litR6:([0,1,2,3,4,5]=List.range 6)=True:=by decide
def Amb.start (w:World):Amb:=⟨fun b _=>b<w.heap.size,fun _=>.unborn,w⟩
def vOf (P:Program) (t:TypeId) (cs:List V):V:=
 match P.underlying t with
 | some (.struct _)=>.agg cs
 | some (.array _ _)=>.agg cs
 | _=>cs.headD .any
def shF (P:Program) (sh:TypeId->List V->Prop):List Field->List V->Prop
 | [],xs=>xs=[]
 | g::gs,xs=>∃ ys zs,xs=ys++zs/\ys.length=P.cellsOf g.type/\sh g.type ys/\shF P sh gs zs
def Sh (P:Program):Nat->TypeId->List V->Prop
 | 0,_,_=>False
 | d+1,t,xs=>match P.underlying t with
   | some .bool=>∃ b,xs=[.bool b]
   | some (.int k)=>∃ n,xs=[.int k n]/\(Lit.int k n).wf=true
   | some (.float k)=>∃ n,xs=[.float k n]/\(Lit.float k n).wf=true
   | some .string=>∃ s,xs=[.str s]/\s.size<=maxLen
   | some (.slice e)=>∃ css:List (List V),xs=[.slice (css.map (vOf P e))]/\css.length<=maxLen/\∀ cs∈css,Sh P d e cs
   | some (.struct fs)=>shF P (Sh P d) fs.toList xs
   | _=>False
def tiled (P:Program) (ok:TypeId->Bool):Nat->List Field->Nat->Bool
 | o,[],n=>o == n
 | o,g::gs,n=>g.offset == o&&ok g.type&&tiled P ok (o+P.cellsOf g.type) gs n
def okT (P:Program):Nat->TypeId->Bool
 | 0,_=>false
 | d+1,t=>match P.underlying t with
   | some .bool|some (.int _)|some (.float _)|some .string=>P.cellsOf t == 1
   | some (.slice e)=>P.cellsOf t == 1&&okT P d e&&decide (0<P.cellsOf e)
   | some (.struct fs)=>tiled P (okT P d) 0 fs.toList (P.cellsOf t)
   | _=>false
section
variable {P:Program} {H:Type} {enc:TypeId × Value->H} {w:World} {base:Nat} {spare:Nat->Bool} {held:Bool}
theorem Wgw {a:Addr} {n:Nat} {cs:List Value} (h:w.cells? base a n=some cs):cs.length=n/\∀ j u,cs[j]? = some u->w.cell? (a.add j)=some u:=by
 unfold World.cells? at h;split at h
 ·refine⟨by simpa using mapM_some_length h,fun j u hu=>?_⟩;have hj:j<n:=by
   have:=(gS hu).1;have h2:cs.length=n:=by simpa using mapM_some_length h
   omega
  have:=mapM_some_get h j j (by simp[hj]);rw[this];exact hu
 ·cases h
theorem VW {a:Addr} {u:Value} (h:w.cell? a=some u):a.block<w.heap.size/\a.spot=none:=by
 unfold World.cell? at h;split at h
 ·rename_i c _ _ hc;refine⟨(Array.getElem?_eq_some_iff.1 hc).1,?_⟩;split at h
  ·cases h
  ·rename_i hs;cases hq:a.spot with|none=>rfl|some _=>rw[hq] at hs;simp at hs
 ·cases h
theorem vOf_cells {d:Nat} {t:TypeId} {cs:List V} (h:Sh P d t cs):(vOf P t cs).cells=cs:=by
 cases d with
 | zero=>exact h.elim
 | succ d=>
   unfold Sh at h;unfold vOf;split at h
   ·rename_i hu;obtain⟨b,rfl⟩:=h;rw[hu];rfl
   ·rename_i hu;obtain⟨n,rfl,_⟩:=h;rw[hu];rfl
   ·rename_i hu;obtain⟨n,rfl,_⟩:=h;rw[hu];rfl
   ·rename_i hu;obtain⟨s,rfl,_⟩:=h;rw[hu];rfl
   ·rename_i hu;obtain⟨css,rfl,_⟩:=h;rw[hu];rfl
   ·rename_i hu;rw[hu];rfl
   ·exact h.elim
theorem trod_rep:∀ (d fuel:Nat) (t:TypeId) (cs:List Value) (x:DataW H × List MemPlace),okT P d t=true->DataW.trod enc P w base spare held fuel t cs=some x->
 ∃ xs,RepL (Amb.start w) xs cs/\(∀ c∈xs,c.scalar=true)/\Sh P d t xs/\xs.length=P.cellsOf t:=by
 intro d
 induction d with
 | zero=>intro fuel t cs x hok;simp[okT] at hok
 | succ d ih=>
   intro fuel t cs x hok hx;cases hu:P.underlying t with
   | none=>simp[okT,hu] at hok
   | some q=>
     unfold okT at hok;rw[hu] at hok;cases q with
     | slice e=>
       simp only[Bool.and_eq_true,beq_iff_eq,decide_eq_true_eq] at hok;obtain⟨⟨hone,hoke⟩,hpos⟩:=hok;rcases DataW.trod_slice hu hx with⟨rfl,_⟩|⟨a,len,cap,elems,rest,n,_,rfl,_,hb,hl,hm,hlen,hel,_⟩
       ·refine⟨[.slice []],.cons (.slice0 _ _) .nil,by simp[V.scalar],?_,by simp[hone]⟩;unfold Sh;rw[hu];exact⟨[],rfl,Nat.zero_le _,by simp⟩
       ·have key:∀ m,m<=len->∃ (css:List (List V)) (cvs:List Value),css.length=m/\RepL (Amb.start w) css.flatten cvs/\cvs.length=m*P.cellsOf e/\(∀ j u,cvs[j]? = some u->w.cell? (a.add j)=some u)/\
         ∀ c∈css,c.length=P.cellsOf e/\(∀ y∈c,y.scalar=true)/\Sh P d e c:=by
         intro m
         induction m with
         | zero=>intro _;exact⟨[],[],rfl,.nil,by simp,by simp,by simp⟩
         | succ m ihm=>
           intro hle;obtain⟨css,cvs,h1,h2,h3,h4,h5⟩:=ihm (by omega);have he:=hel m (by omega);rw[List.getElem?_eq_getElem (by omega)] at he;obtain⟨cells,hc1,hc2⟩:=Option.bind_eq_some_iff.1 he;obtain⟨ys,r1,r2,r3,r4⟩:=ih _ e cells _ hoke hc2;obtain⟨q1,q2⟩:=Wgw hc1;refine⟨css++[ys],cvs++cells,by simp[h1],by simpa using h2.append r1,by simp[h3,q1,Nat.succ_mul],fun j u hj=>?_,fun c hc=>?_⟩
           ·rw[List.getElem?_append] at hj;split at hj
            ·exact h4 j u hj
            ·rename_i hge;have:=q2 _ u hj;rw[Addr.add_add] at this
             rwa [show m*P.cellsOf e+(j - cvs.length)=j by omega] at this
           ·rcases List.mem_append.1 hc with hc|hc
            ·exact h5 c hc
            ·rw[List.mem_singleton.1 hc];exact⟨r4,r2,r3⟩
        obtain⟨css,cvs,h1,h2,h3,h4,h5⟩:=key len (Nat.le_refl _);have hcells:∀ c∈css,(vOf P e c).cells=c:=fun c hc=>vOf_cells (h5 c hc).2.2;have hflat:(css.map (vOf P e)).flatMap V.cells=css.flatten:=by
         clear h1 h2 key
         induction css with
         | nil=>rfl
         | cons c css ihc=>
           simp only[List.map_cons,List.flatMap_cons,List.flatten_cons];rw[hcells c List.mem_cons_self,ihc (fun c hc=>h5 c (List.mem_cons_of_mem _ hc)) (fun c hc=>hcells c (List.mem_cons_of_mem _ hc))]
        have hsh:Sh P (d+1) t [.slice (css.map (vOf P e))]:=by
         unfold Sh;rw[hu];exact⟨css,rfl,by omega,fun c hc=>(h5 c hc).2.2⟩
        refine⟨_,?_,by simp[V.scalar],hsh,by simp[hone]⟩;by_cases h0:len=0
        ·subst h0;have:css=[]:=List.eq_nil_of_length_eq_zero h1;subst this;exact .cons (.slice0 _ _) .nil
        ·have hcv:0<cvs.length:=by rw[h3];exact Nat.mul_pos (by omega) hpos
         obtain⟨b,o,sp⟩:=a;have hfirst:=h4 0 _ (List.getElem?_eq_getElem hcv);have hsp:sp=none:=(VW hfirst).2;subst hsp;have hrep:Rep (Amb.start w) (.slice (css.map (vOf P e))) (.slice (some ⟨b,o,none⟩) (css.map (vOf P e)).length cap):=by
          refine .slice (cvs:=cvs) (s:=P.cellsOf e) (by rw[hflat];exact h2) (fun j u hj=>?_) (fun v hv=>?_) (by simp;omega)
          ·have:=h4 j u hj;have e1:(⟨b,o,none⟩:Addr).add j=⟨b,o+j,none⟩:=Addr.add_mid b o j;rw[e1] at this;exact⟨this,(VW this).1⟩
          ·obtain⟨c,hc,rfl⟩:=List.mem_map.1 hv;refine⟨by rw[hcells c hc];exact (h5 c hc).1,fun y hy=>?_⟩;rw[hcells c hc] at hy;exact (h5 c hc).2.1 y hy
         rw[List.length_map,h1] at hrep;exact .cons hrep .nil
     | struct fs=>
       obtain⟨rs,n,rfl,_,hlen,hrl,hfs⟩:=DataW.trod_struct hu hx;have key:∀ (gs:List Field) (o:Nat),tiled P (okT P d) o gs cs.length=true->(∀ g∈gs,∃ r,DataW.trod enc P w base spare held n g.type ((cs.drop g.offset).take (P.cellsOf g.type))=some r)->
        ∃ xs,RepL (Amb.start w) xs (cs.drop o)/\(∀ c∈xs,c.scalar=true)/\shF P (Sh P d) gs xs/\xs.length+o=cs.length:=by
        intro gs
        induction gs with
        | nil=>
          intro o ht _;simp only[tiled,beq_iff_eq] at ht;subst ht;exact⟨[],by simpa using RepL.nil,by simp,rfl,by simp⟩
        | cons g gs ihg=>
          intro o ht hr;simp only[tiled,Bool.and_eq_true,beq_iff_eq] at ht;obtain⟨⟨rfl,hg⟩,ht⟩:=ht;obtain⟨r,hr1⟩:=hr g List.mem_cons_self;obtain⟨ys,r1,r2,r3,r4⟩:=ih n g.type _ r hg hr1;obtain⟨zs,q1,q2,q3,q4⟩:=ihg _ ht fun g hg=>hr g (List.mem_cons_of_mem _ hg);refine⟨ys++zs,?_,fun c hc=>(List.mem_append.1 hc).elim (r2 c) (q2 c),⟨ys,zs,rfl,r4,r3,q3⟩,by rw[List.length_append];omega⟩;have:=r1.append q1
          rwa [<- List.drop_drop,List.take_append_drop] at this
       obtain⟨xs,r1,r2,r3,r4⟩:=key fs.toList 0 (by rw[hlen];exact hok) fun g hg=>by
        obtain⟨i,hi,rfl⟩:=List.getElem_of_mem hg;have h1:=hfs i fs.toList[i] (by simp);have hi2:i<rs.length:=by rw[hrl];simpa using hi
        rw[List.getElem?_eq_getElem hi2] at h1;exact⟨_,h1⟩
       refine⟨xs,by simpa using r1,r2,?_,by omega⟩;unfold Sh;rw[hu];exact r3
     | bool=>
       obtain⟨b,rfl,_⟩:=DataW.trod_bool hu hx;simp at hok;exact⟨[.bool b],.cons (.bool b) .nil,by simp[V.scalar],by unfold Sh;rw[hu];exact⟨b,rfl⟩,by simp[hok]⟩
     | int k=>
       obtain⟨b,rfl,_,hw⟩:=DataW.trod_int hu hx;simp at hok;exact⟨[.int k b],.cons (.int k b) .nil,by simp[V.scalar],by unfold Sh;rw[hu];exact⟨b,rfl,hw⟩,by simp[hok]⟩
     | string=>
       obtain⟨b,rfl,_,hw⟩:=DataW.trod_string hu hx;simp at hok;exact⟨[.str b],.cons (.str b) .nil,by simp[V.scalar],by unfold Sh;rw[hu];exact⟨b,rfl,hw⟩,by simp[hok]⟩
     | float k=>
       simp at hok;have:∃ n,cs=[.float k n]/\(Lit.float k n).wf=true:=by
        cases fuel with
        | zero=>simp[DataW.trod] at hx
        | succ n=>
          unfold DataW.trod at hx;rw[hu] at hx;split at hx<;>simp_all
       obtain⟨n,rfl,hw⟩:=this;exact⟨[.float k n],.cons (.float k n) .nil,by simp[V.scalar],by unfold Sh;rw[hu];exact⟨n,rfl,hw⟩,by simp[hok]⟩
     | _=>simp at hok
theorem vA {α β:Type} {f:β->α} {q:β->Prop}:∀ {css:List α},(∀ c∈css,∃ b,c=f b/\q b)->∃ l:List β,css=l.map f/\∀ b∈l,q b:=by
 intro css
 induction css with
 | nil=>intro _;exact⟨[],rfl,by simp⟩
 | cons c css ih=>
   intro h;obtain⟨b,rfl,hb⟩:=h c List.mem_cons_self;obtain⟨l,rfl,hl⟩:=ih fun c hc=>h c (List.mem_cons_of_mem _ hc);refine⟨b::l,rfl,fun x hx=>?_⟩;rcases List.mem_cons.1 hx with rfl|hx
   ·exact hb
   ·exact hl x hx
theorem QOz {t:TypeId} {d:Nat} {fs:Array Field} (hu:P.underlying t=some (.struct fs)) (hok:okT P (d+1) t=true) {v:Value} {q:DataW H} {ps:List MemPlace} (ht:DataW.Trod enc P w base spare held t v q ps) (hv:∃ cs,v = .agg cs):
 ∃ xs:List V,Rep (Amb.start w) (.agg xs) v/\shF P (Sh P d) fs.toList xs:=by
 obtain⟨cs,rfl⟩:=hv;obtain⟨fuel,hf⟩:=ht;obtain⟨xs,r1,r2,r3,_⟩:=trod_rep (d+1) fuel t _ _ hok hf;unfold Sh at r3;rw[hu] at r3;exact⟨xs,.agg r1 r2,r3⟩
theorem start_rel (w:World):Qk (Amb.start w) []:=
 ⟨by simp,by simp[Qa.keys],by simp[Qa.keys],fun _ _ h=>h,⟨0,fun _ _=>rfl⟩⟩
end
def dRep (P:Program):Nat->TypeId->DataW Unit->Option (List V)
 | 0,_,_=>none
 | f+1,t,d=>match P.underlying t,d with
   | some (.int k),.lit (.int k' n)=>if k=k' then some [.int k n] else none
   | some .string,.lit (.string l)=>some [.str ⟨l.toArray⟩]
   | some (.array n e),.agg ds=>if P.cellsOf t=n*P.cellsOf e then (ds.mapM (dRep P f e)).bind fun css=>if css.all (fun c=>c.length == P.cellsOf e)=true then some css.flatten else none else none
   | some (.slice e),.slice ds []=>if P.cellsOf e=1 then (ds.mapM (dRep P f e)).bind fun css=>if css.all (fun c=>match c with|[.str _]=>true|_=>false)=true then some [.slice css.flatten] else none else none
   | _,_=>none
section
variable {P:Program} {w:World} {base:Nat} {spare:Nat->Bool} {held:Bool}
theorem mapM_at {α β:Type} {f:α->Option β}:∀ {l:List α} {r:List β},l.mapM f=some r->r.length=l.length/\∀ (i:Nat) (x:α),l[i]? = some x->∃ y,r[i]? = some y/\f x=some y:=by
 intro l
 induction l with
 | nil=>intro r h;simp at h;subst h;simp
 | cons a l ih=>
   intro r h;rw[List.mapM_cons] at h;simp only[Option.bind_eq_bind,Option.bind_eq_some_iff] at h;obtain⟨b,hb,bs,hbs,h⟩:=h;cases h;obtain⟨h1,h2⟩:=ih hbs;refine⟨by simp[h1],fun i x hx=>?_⟩;cases i with
   | zero=>simp at hx;subst hx;exact⟨b,rfl,hb⟩
   | succ i=>simpa using h2 i x (by simpa using hx)
theorem QBw {E:Amb} {c:Nat}:∀ (css:List (List V)) (cs:List Value),cs.length=css.length*c->(∀ i xs,css[i]? = some xs->RepL E xs ((cs.drop (i*c)).take c))->RepL E css.flatten cs
 | [],cs,hl,_=>by
   have:cs=[]:=List.eq_nil_of_length_eq_zero (by simpa using hl);subst this;exact .nil
 | xs::r,cs,hl,h=>by
   have h0:=h 0 xs rfl;rw[Nat.zero_mul,List.drop_zero] at h0;have h1:=QBw (E:=E) (c:=c) r (cs.drop c) (by rw[List.length_drop,hl,List.length_cons,Nat.succ_mul];omega) fun i ys hy=>by
    have:=h (i+1) ys (by simpa using hy)
    rwa [Nat.succ_mul,Nat.add_comm,<- List.drop_drop] at this
   have:=h0.append h1
   rwa [List.take_append_drop] at this
theorem Qcz:∀ (f:Nat) (t:TypeId) (d:DataW Unit) (xs:List V),dRep P f t d=some xs->∀ (fuel:Nat) (cs:List Value) (p:List MemPlace),DataW.trod (fun _=>()) P w base spare held fuel t cs=some (d,p)->RepL (Amb.start w) xs cs
 | 0,_,_,_,h=>by cases h
 | f+1,t,d,xs,h=>by
   intro fuel cs p ht;unfold dRep at h;split at h
   ·rename_i k k' n hu;split at h
    ·rename_i hk;subst hk;cases h;obtain⟨m,rfl,he,_⟩:=DataW.trod_int hu ht;cases he;exact .cons (.int _ _) .nil
    ·cases h
   ·rename_i l hu;cases h;obtain⟨s,rfl,he,_⟩:=DataW.trod_string hu ht;cases he;exact .cons (.str _) .nil
   ·rename_i n e ds hu;split at h
    ·rename_i hn;obtain⟨css,h1,h2⟩:=Option.bind_eq_some_iff.1 h;split at h2
     ·rename_i hall;cases h2;obtain⟨ys,m,_,he,hlen,hyl,hel⟩:=DataW.trod_array hu ht;simp only[Prod.mk.injEq,DataW.agg.injEq] at he;obtain⟨rfl,_⟩:=he;obtain⟨q1,q2⟩:=mapM_at h1;rw[List.length_map,hyl] at q1;refine QBw css cs (by rw[hlen,hn,q1]) fun i zs hz=>?_;have hi:i<n:=by rw[<- q1];exact (gS hz).1
      have hE:=hel i hi;rw[List.getElem?_eq_getElem (by omega)] at hE;obtain⟨y,hy,hy2⟩:=q2 i (ys[i]'(by omega)).1 (by rw[List.getElem?_map,List.getElem?_eq_getElem (by omega)];rfl);rw[hz] at hy;cases hy;exact Qcz f e _ _ hy2 _ _ _ (hE.trans (by rfl))
     ·cases h2
    ·cases h
   ·rename_i e ds hu;split at h
    ·rename_i hc;obtain⟨css,h1,h2⟩:=Option.bind_eq_some_iff.1 h;split at h2
     ·rename_i hall;cases h2;obtain⟨q1,q2⟩:=mapM_at h1;obtain⟨a,cap,rfl,hcap,hel⟩:=open_row hu hc ht;have hstr:∀ c∈css,∃ s,c=[V.str s]:=fun c hcm=>by
       have:=List.all_eq_true.1 hall c hcm;revert this
       match c with
       | [.str s]=>intro _;exact⟨s,rfl⟩
       | []=>intro h;cases h
       | _::_::_=>intro h;split at h<;>simp_all
       | [.int _ _]=>intro h;cases h
       | [.bool _]=>intro h;cases h
       | [.float _ _]=>intro h;cases h
       | [.agg _]=>intro h;cases h
       | [.slice _]=>intro h;cases h
       | [.snil]=>intro h;cases h
       | [v]=>intro h;cases v<;>first|exact⟨_,rfl⟩|cases h
      obtain⟨ss,rfl⟩:∃ ss:List ByteArray,css=ss.map fun s=>[V.str s]:=by
       clear h h1 q1 q2 hall
       induction css with
       | nil=>exact⟨[],rfl⟩
       | cons c r ih=>
         obtain⟨s,rfl⟩:=hstr c List.mem_cons_self;obtain⟨ss,rfl⟩:=ih fun c hc=>hstr c (List.mem_cons_of_mem _ hc);exact⟨s::ss,rfl⟩
      have hfl:(ss.map fun s=>[V.str s]).flatten=ss.map V.str:=by
       clear h hstr hall q2 q1 h1
       induction ss with
       | nil=>rfl
       | cons s r ih=>rw[List.map_cons,List.flatten_cons,ih];rfl
      rw[hfl];rw[List.length_map] at q1;have hcell:∀ (i:Nat) (s:ByteArray),ss[i]? = some s->w.cell? (a.add i)=some (.string s):=fun i s hs=>by
       have hi:i<ds.length:=by rw[<- q1];exact (gS hs).1
       obtain⟨v,n,q,hv,htv⟩:=hel i _ (List.getElem?_eq_getElem hi);obtain⟨y,hy,hy2⟩:=q2 i _ (List.getElem?_eq_getElem hi);rw[List.getElem?_map,hs] at hy;cases hy;have hr:=Qcz f e _ _ hy2 _ _ _ htv;cases hr with
       | cons h1 h2=>cases h1;exact hv
      cases ss with
      | nil=>
        have:ds.length=0:=by simpa using q1.symm
        rw[this];exact .cons (.slice0 _ _) .nil
      | cons s0 sr=>
        obtain⟨b,o,sp⟩:=a;have hsp:sp=none:=(VW (hcell 0 s0 rfl)).2;subst hsp;have hflat:(((s0::sr).map V.str).flatMap V.cells)=(s0::sr).map V.str:=by
         generalize (s0::sr)=q
         induction q with
         | nil=>rfl
         | cons y q ih=>simp only[List.map_cons,List.flatMap_cons,ih];rfl
        have hrl:∀ q:List ByteArray,RepL (Amb.start w) (q.map V.str) (q.map Value.string):=fun q=>by
         induction q with
         | nil=>exact .nil
         | cons y q ih=>exact .cons (.str _) ih
        have hdl:ds.length=((s0::sr).map V.str).length:=by rw[List.length_map,q1]
        rw[hdl];refine .cons (.slice (cvs:=(s0::sr).map Value.string) (s:=1) (by rw[hflat];exact hrl _) (fun j u hj=>?_) (fun v hv=>?_) (by rw[<- hdl];exact hcap)) .nil
        ·rw[List.getElem?_map] at hj;obtain⟨s,hs,rfl⟩:=Option.map_eq_some_iff.1 hj;have:=hcell j s hs;have e1:(⟨b,o,none⟩:Addr).add j=⟨b,o+j,none⟩:=Addr.add_mid b o j;rw[e1] at this;exact⟨this,(VW this).1⟩
        ·obtain⟨s,_,rfl⟩:=List.mem_map.1 hv;exact⟨rfl,fun y hy=>by simp[V.cells] at hy;subst hy;rfl⟩
     ·cases h2
    ·cases h
   ·cases h
theorem glob_of {n:String} {g:Nat} {cs:Array Value} {v:V} (hg:P.globalNamed n=some g) (hv:w.var? P n=some cs) (hr:RepL (Amb.start w) v.cells cs.toList) (hok:v.ok) (h0:0<v.cells.length):
 Rep (Amb.start w) (.rptr v) (.pointer (some ⟨g,0,none⟩))/\(Amb.start w).I g v.cells.length/\(Amb.start w).w.cell? ⟨g,v.cells.length,none⟩=none:=by
 have hl:=hr.length;have hcell:=fun i=>World.var?_cell hg hv i;have h1:∃ u,w.cell? ⟨g,0,none⟩=some u:=by
  have hz:0<cs.size:=by simpa using (by omega:0<cs.toList.length)
  exact⟨cs[0],by rw[hcell 0,Array.getElem?_eq_getElem hz]⟩
 obtain⟨u,hu⟩:=h1;have hlt:g<w.heap.size:=(VW hu).1;refine⟨.rptr hr hok fun j u hj=>?_,hlt,?_⟩
 ·rw[Nat.zero_add];exact⟨by show w.cell? _=_;rw[hcell j];simpa using hj,hlt⟩
 ·show w.cell? _=none;rw[hcell];refine Array.getElem?_eq_none ?_;have:cs.toList.length=cs.size:=by simp
  omega
theorem Wbz {C:Ctx} {f:FuncId} {vs:List V} (h:Ql C f vs (.bool true)) {w:World} (hg:Xu C (Amb.start w)) {cargs:List Value} (hr:RepL (Amb.start w) vs cargs):
 Calls C.P f cargs.toArray w fun e w'=>e = .returned (.bool true)/\Go.RowKit.Below w.heap.size w w':=by
 refine (h.2 (Amb.start w) cargs 0 (start_rel w) hg hr (fun _ _=>rfl)).mono ?_;rintro e w' ⟨E',o,σ',rfl,⟨rfl,rfl⟩,ho,hs,hgr,_⟩;cases ho with|ret hv=>
 cases hv;exact⟨rfl,hgr.os,hgr.tape,hgr.output,hgr.size,fun k hk=>hgr.kept k hk fun ⟨id,hi,_⟩=>by simp[Qa.keys] at hi⟩
end
end Go.Awp
