/- Names: the registers of a body. -/
import Derived.Test.YtnielafbkgpgjaaGreatDoorX25
set_option linter.all false
set_option maxRecDepth 100000
set_option maxHeartbeats 8000000
namespace Go.Awp.R1
open Go Go.Awp Go.Proofs Go.Awp.Sp
def okSt:Nat->St->Prop
 | 0,_=>False
 | n+1,.mk _ _ _ _ xs body els _=>xs.length<=100/\(∀ e∈xs,okE 13 e)/\body.length<=1000000/\els.length<=1000000/\(∀ s∈body,okSt n s)/\∀ s∈els,okSt n s
def okB (n:Nat) (l:List St):Prop:=l.length<=1000000/\∀ s∈l,okSt n s
def kOE (i:KIds) (tc:List V) (ts:Qp):Except Er (List Bs)->Qa
 | .ok r=>kS i tc ts r
 | .error _=>[]
def erV {α:Type}:Except Er α->V
 | .ok _=>.tup [.int .i64 0,.int .i64 0]
 | .error e=>.tup [.int .i64 e.1,.int .i64 e.2]
theorem Qlq {ts:Qp} {l:List St} {k:Nat} {s:St} (h:l[k]? = some s) (regs:List Bs):Wu ts regs (l.drop k)=match qM ts regs s with
 | .error e=>.error e
 | .ok r=>Wu ts r (l.drop (k+1)):=by
 have hk:k<l.length:=(gS h).1;have he:l[k]=s:=(gS h).2;rw[List.drop_eq_getElem_cons hk,Wu,he]<;>cases qM ts regs s<;>rfl
mutual
theorem stmtC_len {ts:Qp}:∀ (s:St) {regs r:List Bs},qM ts regs s = .ok r->regs.length<=8->r.length<=8
 | .mk k reg name ix xs body els p,regs,r,h,h8=>by
   rw[qM] at h;split at h
   ·cases h
   ·split at h
    ·cases h
    ·rename_i r1 h1;have l1:=qH xs h1 h8;split at h
     ·cases h
     ·rename_i r2 h2;have l2:r2.length<=8:=by
       split at h2
       ·exact jH h2 l1
       ·cases h2;exact l1
      split at h
      ·cases h
      ·rename_i r3 h3;exact Zw els h (Zw body h3 l2)
theorem Zw {ts:Qp}:∀ (l:List St) {regs r:List Bs},Wu ts regs l = .ok r->regs.length<=8->r.length<=8
 | [],regs,r,h,h8=>by rw[Wu] at h;cases h;exact h8
 | e::l,regs,r,h,h8=>by
   rw[Wu] at h;split at h
   ·cases h
   ·rename_i r' hr';exact Zw l h (stmtC_len e hr' h8)
end
theorem aboutC_er (ts:Qp) (s:St):Yb ts s=0∨Yb ts s=8∨Yb ts s=9:=by
 unfold Yb;split
 ·split
  ·exact .inr (.inl rfl)
  ·split
   ·exact .inl rfl
   ·exact .inr (.inr rfl)
 ·exact .inl rfl
mutual
theorem stmtC_er {ts:Qp}:∀ (s:St) {regs:List Bs} {e:Er},qM ts regs s = .error e->e.2=2∨e.2=8∨e.2=9
 | .mk k reg name ix xs body els p,regs,e,h=>by
   rw[qM] at h;split at h
   ·rename_i hne;cases h;rcases aboutC_er ts (.mk k reg name ix xs body els p) with h|h|h
    ·exact absurd h hne
    ·exact .inr (.inl h)
    ·exact .inr (.inr h)
   ·split at h
    ·rename_i e1 h1;cases h;rcases zi xs h1 with h|h
     ·exact .inl h
     ·exact .inr (.inr h)
    ·rename_i r1 h1;split at h
     ·rename_i e2 h2;cases h;split at h2
      ·rcases yI h2 with h|h
       ·exact .inl h
       ·exact .inr (.inr h)
      ·cases h2
     ·rename_i r2 h2;split at h
      ·rename_i e3 h3;cases h;exact Zx body h3
      ·exact Zx els h
theorem Zx {ts:Qp}:∀ (l:List St) {regs:List Bs} {e:Er},Wu ts regs l = .error e->e.2=2∨e.2=8∨e.2=9
 | [],regs,e,h=>by rw[Wu] at h;cases h
 | s::l,regs,e,h=>by
   rw[Wu] at h;split at h
   ·rename_i e' h';cases h;exact stmtC_er s h'
   ·exact Zx l h
end
def Uk (ts:Qp) (body els:List St) (j:Nat) (r:List Bs):Except Er (List Bs):=
 if j=0 then (match Wu ts r body with|.error e=>.error e|.ok r=>Wu ts r els) else if j=1 then Wu ts r els else .ok r
theorem get_app {σ:Qa} {id:Id} {b:Blk} (h:id∉Qa.keys σ):(σ++[(id,b)]).get id=some b:=by
 induction σ with
 | nil=>simp[Qa.get]
 | cons x σ ih=>
   have h1:x.1≠id:=fun e=>h (by simp[Qa.keys,e]);have h2:id∉Qa.keys σ:=fun hm=>h (by unfold Qa.keys at hm ⊢;exact List.mem_cons_of_mem _ hm);simp[h1,ih h2]
theorem kO_keys {i:KIds} {tc:List V} {ts:Qp} {e:Except Int (List Bs)} {id:Id} (h:id∈(kO i tc ts e).keys):id∈(kS i tc ts []).keys:=by
 cases e with
 | ok r=>exact h
 | error e=>cases h
theorem kO_nd {i:KIds} (hi:i.Ok) {tc:List V} {ts:Qp} {e:Except Int (List Bs)}:(kO i tc ts e).keys.Nodup:=by
 cases e with
 | ok r=>exact YV hi
 | error e=>exact List.nodup_nil
def stA (ts:Qp) (s:St) (r:List Bs):Except Int (List Bs):=if Yb ts s≠0 then .error (Yb ts s) else .ok r
def stE (ts:Qp) (xs:List Ex):Except Int (List Bs)->Except Int (List Bs)
 | .error e=>.error e
 | .ok r=>Xm ts r xs
def stR (ts:Qp) (kind:Int) (reg:Bs):Except Int (List Bs)->Except Int (List Bs)
 | .error e=>.error e
 | .ok r=>if Wh kind then regC ts r reg else .ok r
theorem stmtC_eq {ts:Qp} {k:Int} {reg name:Bs} {ix:Bool} {xs:List Ex} {body els:List St} {p:Int} {r:List Bs}:qM ts r (.mk k reg name ix xs body els p) =
 match stR ts k reg (stE ts xs (stA ts (.mk k reg name ix xs body els p) r)) with
 | .error e=>.error (p,e)
 | .ok r=>Uk ts body els 0 r:=by
 rw[qM];unfold stA;split
 ·rfl
 ·show (_:Except Er (List Bs))=(match stR ts k reg (Xm ts r xs) with
   | .error e=>Except.error (p,e)
   | .ok r=>Uk ts body els 0 r)
  cases Xm ts r xs with
  | error e=>rfl
  | ok r1=>
    show (_:Except Er (List Bs))=(match (if Wh k=true then regC ts r1 reg else .ok r1) with
     | .error e=>Except.error (p,e)
     | .ok r=>Uk ts body els 0 r)
    simp only;cases (if Wh k=true then regC ts r1 reg else .ok r1) with
    | error e=>rfl
    | ok r2=>
      simp only[Uk,if_true]<;>cases Wu ts r2 body<;>rfl
theorem stE_drop {ts:Qp} {xs:List Ex} {j:Nat} {x:Ex} (h:xs[j]? = some x) (e0:Except Int (List Bs)):stE ts (xs.drop j) e0=stE ts (xs.drop (j+1)) (match e0 with|.error c=>.error c|.ok r=>ZT ts r x):=by
 cases e0 with
 | error c=>rfl
 | ok r=>
   show Xm ts r (xs.drop j)=_;rw[zQ h];simp only;cases ZT ts r x<;>rfl
theorem stE_nil {ts:Qp} (e0:Except Int (List Bs)):stE ts [] e0=e0:=by
 cases e0 with
 | error c=>rfl
 | ok r=>show Xm ts r []=_;rw[Xm]
theorem Wbw {x y:Id × Blk} {σ:Qa} (h:x.1∉Qa.keys σ) (h2:y.1∉Qa.keys σ):Qa.less (x::y::σ) σ=[x,y]:=by
 have h0:=Qa.Vm σ;unfold Qa.less at h0 ⊢;rw[List.filter_cons_of_pos (by simpa using h),List.filter_cons_of_pos (by simpa using h2),h0]
def Nz (e:Except Int (List Bs)):Prop:=∀ c,e = .error c->c≠0
def L8 (e:Except Int (List Bs)):Prop:=∀ r,e = .ok r->r.length<=8
theorem Nz.stR {ts:Qp} {k:Int} {reg:Bs} {e:Except Int (List Bs)} (h:Nz e):Nz (stR ts k reg e):=fun c hc=>by
 unfold R1.stR at hc;split at hc
 ·cases hc;exact h _ rfl
 ·split at hc
  ·rcases yI hc with h|h<;>rw[h]<;>decide
  ·cases hc
theorem L8.stR {ts:Qp} {k:Int} {reg:Bs} {e:Except Int (List Bs)} (h:L8 e):L8 (stR ts k reg e):=fun r hr=>by
 unfold R1.stR at hr;split at hr
 ·cases hr
 ·split at hr
  ·exact jH hr (h _ rfl)
  ·cases hr;exact h _ rfl
theorem uI (i:KIds) (hi:i.Ok) (tc:List V) (ts:Qp):∀ (n:Nat) (l:List St) (regs:List Bs),okB n l->regs.length<=8->
 ADet TC 61 [.ptr i.c 0,.slice (Qr l)] (kS i tc ts regs) (.ret (erV (Wu ts regs l))) (kOE i tc ts (Wu ts regs l)):=by
 intro n
 induction n using Nat.strongRecOn with|_ n ih=>?_
 intro l regs hn hr8;refine ADet.down (ex:=[1000043]) ?_;refine ent Tryz.func61 fun L K hL hR hN hP=>?_;have hll:=hn.1;simp;have fin:∀ s' e,Wu ts regs l = .error e->Qf (TCe [1000043]).P s' Tryz.f61.results.toList=some [.int .i64 e.1,.int .i64 e.2]->K .ret s':=fun s' e he h1=>by
  refine hR _ ?_;exact .keeps [] [] h1 (by simp) (by simp) (by simp) (by simp[Qa.keys]) (by simp[Qa.keys]) (.refl _) ⟨by rw[he];rfl,by rw[he];rfl⟩
 refine QB (α:=Nat × List Bs) (fun x=>x.1<=l.length/\x.2.length<=8/\Wu ts regs l=Wu ts x.2 (l.drop x.1)) (fun x=>[(0,.ptr i.c 0),(15,.slice (Qr l)),(16,.int .i64 l.length),(17,.int .i64 (x.1:Int))]) (fun x=>kS i tc ts x.2) (fun x=>l.length - x.1) (0,regs) ⟨by simp,hr8,by simp⟩ (Qb (by simp[WG]) (by simp) (fun _=>YV hi)) ?_;rintro⟨k,r0⟩ L1 K1 ⟨hk,hr0,heq⟩ hL1 hfr hnext hex hrt - -;simp at hk hr0 heq;have hfr':∀ j,(L1,j)∉(kS i tc ts r0).keys:=fun j h=>hfr _ h rfl;simp;refine Qv.mk (fun hb=>?_) fun hb=>?_
 ·have hk4:k<l.length:=by simp at hb;omega
  obtain⟨x,hx⟩:=gE hk4;have b1':(0:Int)<=(k:Int):=by omega
  have b2':(k:Int)<l.length:=by omega
  have w1:=wr2 k;have hxs:(Qr l)[k]? = some (We x):=by rw[WG,List.getElem?_map,hx]<;>rfl
  have hkk:k<(Qr l).length:=by rw[WG];simpa using hk4
  have hsz:=hn.2 x (List.mem_of_getElem? hx);obtain⟨m,rfl⟩:∃ m,n=m+1:=by cases n with|zero=>exact hsz.elim|succ m=>exact⟨m,rfl⟩
  have hdr:=Qlq (ts:=ts) hx r0;rw[hdr] at heq;obtain⟨kind,reg,name,ix,xs,body,els,place⟩:=x;have hxv:(Qr l)[k] = .agg [.int .i64 kind,.str (bs reg),.str (bs name),.bool ix,.slice (Qm xs),.slice (Qr body),.slice (Qr els),.int .i64 place]:=by rw[List.getElem?_eq_getElem hkk] at hxs;exact Option.some.inj hxs
  have hab:=about_ok i hi tc ts r0 kind reg name ix xs body els place;rw[We] at hab;simp[hkk,hxv,b1'];refine Qe.det (ADet.up hab) ?_ (YV hi) (by decide) rfl (fun v hv=>?_) (fun v hv=>by cases hv)
  ·intro x hx;simp[hx]
  cases hv;rw[US (hfr' 0)];simp;obtain⟨x7,hx7⟩:∃ x7,Blk.cells 56 [V.int IntKind.i64 kind,V.str (bs reg),V.str (bs name),V.bool ix,V.slice (Qm xs),V.slice (Qr body),V.slice (Qr els),V.int IntKind.i64 place]=x7:=⟨_,rfl⟩
  have hg:=get_app (b:=x7) (hfr' 0);rw[<- hx7] at hg;simp[hg];obtain⟨eA,heA⟩:∃ eA,stA ts (.mk kind reg name ix xs body els place) r0=eA:=⟨_,rfl⟩
  have hAI:Yb ts (.mk kind reg name ix xs body els place)=errI eA:=by
   rw[<- heA];unfold stA;split
   ·rfl
   ·rename_i h;simpa[errI] using h
  have hAz:Nz eA:=fun c hc=>by
   rw[<- heA] at hc;unfold stA at hc;split at hc
   ·rename_i h;cases hc;exact h
   ·cases hc
  have hA8:L8 eA:=fun r hr=>by
   rw[<- heA] at hr;unfold stA at hr;split at hr
   ·cases hr
   ·cases hr;exact hr0
  have hAk:∀ y,y∈kO i tc ts eA->y∈kS i tc ts r0:=fun y hy=>by
   rw[<- heA] at hy;unfold stA at hy;split at hy
   ·cases hy
   ·exact hy
  rw[stmtC_eq,heA] at heq;rw[hAI];have hnd:∀ e:Except Int (List Bs),(Qa.keys (((L1,0),x7)::kO i tc ts e)).Nodup:=fun e=>by
   unfold Qa.keys;rw[List.map_cons,List.nodup_cons];exact⟨fun h=>hfr _ (kO_keys h) rfl,kO_nd hi⟩
  have hS0:∀ y,y∈((L1,0),x7)::kO i tc ts eA->y∈kS i tc ts r0++[((L1,0),Blk.cells 56 [V.int IntKind.i64 kind,V.str (bs reg),V.str (bs name),V.bool ix,V.slice (Qm xs),V.slice (Qr body),V.slice (Qr els),V.int IntKind.i64 place])]:=fun y hy=>by
   rw[hx7];rcases List.mem_cons.1 hy with rfl|hy
   ·simp
   ·exact List.mem_append_left _ (hAk y hy)
  refine QB (α:=Nat × Except Int (List Bs)) (fun x=>x.1<=xs.length/\Nz x.2/\L8 x.2/\stE ts xs eA=stE ts (xs.drop x.1) x.2) (fun x=>[(0,.ptr i.c 0),(7,.ptr (L1,0) 0),(8,.int .i64 (errI x.2)),(15,.slice (Qr l)),(16,.int .i64 l.length),(17,.int .i64 (k:Int)),(25,.slice (Qm xs)),(26,.int .i64 xs.length),(27,.int .i64 (x.1:Int))]) (fun x=>((L1,0),x7)::kO i tc ts x.2) (fun x=>xs.length - x.1) (0,eA) ⟨by simp,hAz,hA8,by simp⟩ (Qb (by simp[Wj]) hS0 (fun _=>hnd _)) ?_;rintro⟨j,e0⟩ L2 K2 ⟨hj,hj0,hj8,hjq⟩ hL2 hfrj hnextj hexj hrtj - -;simp at hj hj0 hj8 hjq;simp;refine Qv.mk (fun hb=>?_) fun hb=>?_
  ·have hjx:j<xs.length:=by simp at hb;omega
   obtain⟨x,hx2⟩:=gE hjx;have c1':(0:Int)<=(j:Int):=by omega
   have c2':(j:Int)<xs.length:=by omega
   have hxl:=hsz.1;have w2:=wr2 j;have hxs2:(Qm xs)[j]? = some (Qh x):=by rw[Wj,List.getElem?_map,hx2]<;>rfl
   have hkk2:j<(Qm xs).length:=by rw[Wj];simpa using hjx
   have hdr2:=stE_drop (ts:=ts) hx2 e0;rw[hdr2] at hjq;have hoke:=hsz.2.1 x (List.mem_of_getElem? hx2);obtain⟨xop,xn,xname,xparts⟩:=x;have hxv2:(Qm xs)[j] = .agg [.str (bs xop),.cplx .f64 (fz xn.re) (fz xn.im),.str (bs xname),.slice (Qm xparts)]:=by rw[List.getElem?_eq_getElem hkk2] at hxs2;exact Option.some.inj hxs2
   simp[hkk2,hxv2,c1'];cases e0 with
   | error c=>
     have hc:(c == 0)=false:=by simpa using hj0 c rfl
     simp[errI,hc,w2];exact hnextj _ (j+1,.error c) ⟨by omega,hj0,hj8,hjq⟩ (by simp;omega) (Qb (by simp[errI]) (by simp[kO]) (fun _=>hnd _))
   | ok r=>
     have hr0':=hj8 r rfl;have hcall:=Qvq i hi tc ts 13 _ r hoke hr0';rw[Qh] at hcall;simp[errI];have k2:(L2,0)∉(kS i tc ts r).keys:=fun h=>hfrj (L2,0) (by unfold Qa.keys;exact List.mem_cons_of_mem _ h) rfl;refine Qe.det (ADet.up hcall) ?_ (YV hi) (by decide) rfl (fun v hv=>?_) (fun v hv=>by cases hv)
     ·intro x hx;exact List.mem_cons_of_mem _ (List.mem_cons_of_mem _ hx)
     cases hv;have k1:(L1,0)∉(kS i tc ts r).keys:=hfr' 0;rw[show kO i tc ts (.ok r)=kS i tc ts r from rfl,Wbw k2 k1];simp[w2];refine hnextj _ (j+1,ZT ts r (.mk xop xn xname xparts)) ⟨by omega,fun c hc=>?_,fun r' h'=>zj _ h' hr0',hjq⟩ (by simp;omega) (Qb (by simp) (by simp;exact fun a b c h=>.inl h) (fun _=>hnd _));rcases vn _ hc with h|h<;>rw[h]<;>decide
  ·have hjx:j=xs.length:=by simp at hb;omega
   subst hjx;rw[List.drop_length] at hjq;simp;refine hexj _ _ ?_;simp;rw[stE_nil] at hjq;rw[hjq] at heq;cases e0 with
   | error c=>
     have hc:(c == 0)=false:=by simpa using hj0 c rfl
     have hc2:(c != 0)=true:=by simpa using hj0 c rfl
     rw[<- hx7];simp[errI,hc];refine QEw ?_;simp[hc2];refine hrt _ ?_;exact fin _ (place,c) heq rfl
   | ok r=>
     have hr0':=hj8 r rfl;rw[<- hx7];simp[errI];refine Qc (Ql.up (wJ kind)) ?_;simp;obtain⟨e2,he2⟩:∃ e2,stR ts kind reg (.ok r)=e2:=⟨_,rfl⟩
     have h2z:Nz e2:=he2▸Nz.stR (fun c hc=>by cases hc);have h28:L8 e2:=he2▸L8.stR (fun c hc=>by cases hc;exact hr0');rw[he2] at heq;have hx7':Blk.cells 56 [V.int IntKind.i64 kind,V.str (bs reg),V.str (bs name),V.bool ix,V.slice (Qm xs),V.slice (Qr body),V.slice (Qr els),V.int IntKind.i64 place]=x7:=hx7;rw[hx7'];refine Yh (α:=Unit) (fun _=>True) (fun _=>[(0,.ptr i.c 0),(7,.ptr (L1,0) 0),(8,.int .i64 (errI e2)),(15,.slice (Qr l)),(16,.int .i64 l.length),(17,.int .i64 (k:Int))]) (fun _=>((L1,0),x7)::kO i tc ts e2) 1 ?_ ?_
     ·intro K3 hnext3 hex3 hrt3 hgo3 hpn3;rcases hgv:Wh kind
      ·have:e2 = .ok r:=by rw[<- he2];unfold stR;rw[hgv]<;>rfl
       subst this;simp;exact hnext3 _ () trivial (Qi (by simp) (by simp[errI]) (by simp[kO]) (fun _=>hnd _))
      ·have he3:regC ts r reg=e2:=by rw[<- he2];unfold stR;rw[hgv]<;>rfl
       have hreg:=reg_ok i hi tc ts r reg hr0';rw[he3] at hreg;rw[<- hx7'];simp;refine Qe.det (ADet.up hreg) ?_ (YV hi) (by decide) rfl (fun v hv=>?_) (fun v hv=>by cases hv)
       ·intro x hx;exact List.mem_cons_of_mem _ hx
       cases hv;have k1:(L1,0)∉(kS i tc ts r).keys:=hfr' 0;rw[show kO i tc ts (.ok r)=kS i tc ts r from rfl,US k1];simp;refine hnext3 _ () trivial (Qi (by simp) (by simp) (fun y hy=>?_) (fun _=>hnd _));rw[<- hx7'] at hy;rcases List.mem_cons.1 hy with rfl|hy
       ·simp
       ·exact List.mem_append_left _ hy
     ·rintro⟨⟩ -;rw[<- hx7'];simp;cases e2 with
      | error c=>
        have hc2:(c != 0)=true:=by simpa using h2z c rfl
        simp[errI,hc2];refine hrt _ ?_;exact fin _ (place,c) heq rfl
      | ok r2=>
        have hr2:=h28 r2 rfl;have hl0:L<L1:=hL1;simp[errI];replace heq:Wu ts regs l=(match Uk ts body els 0 r2 with|.error e=>.error e|.ok r=>Wu ts r (l.drop (k+1))):=heq;refine QB (α:=Nat × List Bs) (fun x=>x.1<=2/\x.2.length<=8/\Uk ts body els 0 r2=Uk ts body els x.1 x.2) (fun x=>[(0,.ptr i.c 0),(15,.slice (Qr l)),(16,.int .i64 l.length),(17,.int .i64 (k:Int)),(57,.agg [.slice (Qr body),.slice (Qr els)]),(58,.int .i64 (x.1:Int))]) (fun x=>kS i tc ts x.2) (fun x=>2 - x.1) (0,r2) ⟨by simp,hr2,rfl⟩ (Qb (by simp) (by simp[kO];exact fun a b c h=>.inr h) (fun _=>YV hi)) ?_;rintro⟨j,r3⟩ L3 K4 ⟨hj3,hr3,hq3⟩ hL3 hfr3 hnext3 hex3 hrt3 - -;simp at hj3 hr3 hq3;simp;refine Qv.mk (fun hb3=>?_) (fun hb3=>?_)
        ·have hj2:j<2:=by simp at hb3;omega
         rcases (show j=0∨j=1 by omega) with rfl|rfl
         ·have hcb:=ih m (by omega) body r3 ⟨hsz.2.2.1,hsz.2.2.2.2.1⟩ hr3;simp;refine Qe.det (ADet.up hcb) ?_ (YV hi) (by decide) rfl (fun v hv=>?_) (fun v hv=>by cases hv)
          ·intro x hx;exact hx
          cases hv;rw[Qa.Vm];rw[hq3] at heq;cases hq:Wu ts r3 body with
          | error e=>
            have hne:(e.2 != 0)=true:=by rcases Zx _ hq with h|h|h<;>rw[h]<;>rfl
            simp[erV,hne];refine hrt3 _ ?_;refine hrt _ ?_;refine fin _ e ?_ rfl;rw[heq];simp[Uk,hq]
          | ok r4=>
            have hl4:=Zw _ hq hr3;simp[erV,kOE];exact hnext3 _ (1,r4) ⟨by omega,hl4,by rw[hq3];simp[Uk,hq]⟩ (by simp) (Qb (by simp) (by simp) (fun _=>YV hi))
         ·have hcb:=ih m (by omega) els r3 ⟨hsz.2.2.2.1,hsz.2.2.2.2.2⟩ hr3;simp;refine Qe.det (ADet.up hcb) ?_ (YV hi) (by decide) rfl (fun v hv=>?_) (fun v hv=>by cases hv)
          ·intro x hx;exact hx
          cases hv;rw[Qa.Vm];rw[hq3] at heq;cases hq:Wu ts r3 els with
          | error e=>
            have hne:(e.2 != 0)=true:=by rcases Zx _ hq with h|h|h<;>rw[h]<;>rfl
            simp[erV,hne];refine hrt3 _ ?_;refine hrt _ ?_;refine fin _ e ?_ rfl;rw[heq];simp[Uk,hq]
          | ok r4=>
            have hl4:=Zw _ hq hr3;simp[erV,kOE];exact hnext3 _ (2,r4) ⟨by omega,hl4,by rw[hq3];simp[Uk,hq]⟩ (by simp) (Qb (by simp) (by simp) (fun _=>YV hi))
        ·have hj2:j=2:=by simp at hb3;omega
         subst hj2;simp;refine hex3 _ _ ?_;simp[w1];rw[hq3] at heq;exact hnext _ (k+1,r3) ⟨by omega,hr3,heq⟩ (by simp;omega) (Qb (by simp) (by simp) (fun _=>YV hi))
 ·have hk4:k=l.length:=by simp at hb;omega
  subst hk4;rw[List.drop_length,Wu] at heq;simp;refine hex _ _ ?_;simp;refine hR _ ?_;refine .keeps [] (kS i tc ts r0) rfl (by simp) (by simp) (by simp) (YV hi) (by simp[Qa.keys]) (.refl _) ⟨by rw[heq];rfl,by rw[heq];rfl⟩
theorem Qpw (ts:Qp) (s:Bs) (b:Int):(rebase ts s b).map (·.1)=ts.map (·.1):=by
 unfold rebase;rw[List.map_map];apply List.map_congr_left;intro x _;simp only[Function.comp];split<;>rfl
theorem qg (ts:Qp) (s w:Bs) (b:Int):(rebase ts s b).lookup w=(ts.lookup w).map fun x=>if w=s then { x with base:=b } else x:=by
 induction ts with
 | nil=>rfl
 | cons y ts ih=>
   unfold rebase at ih ⊢;rw[List.map_cons];by_cases h:y.1=s
   ·rw[if_pos h,List.lookup_cons,List.lookup_cons];by_cases h2:w=y.1
    ·subst h2;simp[h]
    ·have:(w == y.1)=false:=by simpa using h2
     simp only[this];exact ih
   ·rw[if_neg h,List.lookup_cons,List.lookup_cons];by_cases h2:w=y.1
    ·subst h2;simp[h]
    ·have:(w == y.1)=false:=by simpa using h2
     simp only[this];exact ih
structure PlOk (ts:Qp) (ds:List Dc):Prop where
 uniq:QJq ts
 len:∀ s x,ts.lookup s=some x->0<=x.len/\x.len<=8
 has:∀ d∈ds,d.sort≠4->∃ x,ts.lookup d.name=some x
theorem PlOk.rebase {ts:Qp} {ds:List Dc} (h:PlOk ts ds) (s:Bs) (b:Int):PlOk (Sp.rebase ts s b) ds:=by
 refine⟨?_,?_,?_⟩
 ·unfold QJq;rw[Qpw];exact h.uniq
 ·intro w x hx;rw[qg] at hx;obtain⟨y,hy,rfl⟩:=Option.map_eq_some_iff.1 hx;have:=h.len _ _ hy;split<;>exact this
 ·intro d hd h4;obtain⟨x,hx⟩:=h.has d hd h4;rw[qg,hx];exact⟨_,rfl⟩
def gOf (k:Nat) (s:Int):Bool:=s == [0,2,3,5].getD k 0||s == [1,2,3,5].getD k 0
def plS (ts:Qp) (ds:List Dc):Nat->Int × Qp
 | 0=>(0,ts)
 | k+1=>Zc (gOf k) (plS ts ds k) ds
theorem Qqz (ts:Qp) (ds:List Dc):Xq ts ds=((plS ts ds 3).1,(plS ts ds 4).2,(plS ts ds 4).1):=by
 have h1:gOf 1=fun s=>s == 2:=by funext s;simp[gOf]
 have h2:gOf 2=fun s=>s == 3:=by funext s;simp[gOf]
 have h3:gOf 3=fun s=>s == 5:=by funext s;simp[gOf]
 have h0:gOf 0=fun s=>s == 0||s == 1:=by funext s;simp[gOf]
 unfold Xq;simp only[plS,h0,h1,h2,h3]
theorem Qqq {g:Int->Bool} {ds:List Dc} {j:Nat} {d:Dc} (h:ds[j]? = some d) (a:Int × Qp):Zc g a (ds.drop j)=Zc g (if g d.sort then (a.1+lenOf a.2 d.name,rebase a.2 d.name a.1) else a) (ds.drop (j+1)):=by
 have hk:j<ds.length:=(gS h).1;have he:ds[j]=d:=(gS h).2;obtain⟨n,ts⟩:=a;rw[List.drop_eq_getElem_cons hk,Zc,he];split<;>rfl
def pS (i:TIds) (ob:Int) (first:Int) (tc:List V) (ts:Qp):Qa:=[(i.tb,.cells 94 (.map i.mid :: .int .i64 ob :: .int .i64 first::tc)),(i.mid,mblk ts)]
def gY0 (k:Nat):Int:=[0,2,3,5].getD k 0
def gY1 (k:Nat):Int:=[1,2,3,5].getD k 0
theorem gOf_4 {k:Nat} {s:Int} (hk:k<4) (h:gOf k s=true):s≠4:=by
 unfold gOf at h;rcases nat4 hk with rfl|rfl|rfl|rfl<;>simp at h<;>omega
theorem gY_5 {k:Nat} (hk:k<4):(gY0 k == 5)=decide (k=3):=by
 rcases nat4 hk with rfl|rfl|rfl|rfl<;>rfl
theorem place_ok (i:TIds) (hi:i.Ok) (ob first:Int) (tc:List V) (ts:Qp) (ds:List Dc) (hd:ds.length<=1000000) (hp:PlOk ts ds):
 ADet TC 60 [.ptr i.tb 0,.agg [.slice (ds.map QO)]] (pS i ob first tc ts) (.ret (.tup [])) (pS i ob (Xq ts ds).1 tc (Xq ts ds).2.1):=by
 obtain⟨n1,_,_⟩:=hi;refine ADet.down (ex:=[11,1000020]) ?_;have hmt:=Zg;have hst9:Qo TC.P 9 = .str:=by kernel_rfl
 refine ent Tryz.func60 fun L K hL hR hN hP=>?_;have hL1:i.tb.1<L:=hL i.tb (by simp[Qa.keys,pS]);have hL2:i.mid.1<L:=hL i.mid (by simp[Qa.keys,pS]);obtain⟨tb,mid,tid⟩:=i;simp only at n1 hL1 hL2;have m1:=n1.symm;have a1:∀ j:Nat,¬ (L,j)=tb:=fun j e=>by rw[<- e] at hL1;exact Nat.lt_irrefl _ hL1
 have a2:∀ j:Nat,¬ (L,j)=mid:=fun j e=>by rw[<- e] at hL2;exact Nat.lt_irrefl _ hL2
 have b1:∀ j:Nat,¬ tb=(L,j):=fun j e=>a1 j e.symm;have b2:∀ j:Nat,¬ mid=(L,j):=fun j e=>a2 j e.symm;obtain⟨gl,hgl,hgl8,hglk⟩:∃ gl,[V.int IntKind.i64 0,.int .i64 1,.int .i64 2,.int .i64 2,.int .i64 3,.int .i64 3,.int .i64 5,.int .i64 5]=gl/\gl.length=8/\∀ k,k<4->(gl.drop (k*2)).take 2=[V.int .i64 (gY0 k),V.int .i64 (gY1 k)]:=⟨_,rfl,rfl,fun k hk=>by rcases nat4 hk with rfl|rfl|rfl|rfl<;>rfl⟩
 simp[pS,mblk,hgl];obtain⟨fs,hfs⟩:∃ fs:Nat->Int,∀ k,fs k=if k=4 then (plS ts ds 3).1 else first:=⟨_,fun _=>rfl⟩
 have hfs0:fs 0=first:=by rw[hfs];simp
 refine QB (α:=Nat) (fun k=>k<=4/\PlOk (plS ts ds k).2 ds/\0<=(plS ts ds k).1/\(plS ts ds k).1<=8*(k*ds.length)) (fun k=>[(0,.ptr tb 0),(3,.ptr (L,0) 0),(4,.int .i64 (plS ts ds k).1),(14,.agg gl),(15,.int .i64 (k:Int))]) (fun k=>[((L,0),.cells 77 [.slice (ds.map QO)]),(tb,.cells 94 (.map mid :: .int .i64 ob :: .int .i64 (fs k)::tc)),(mid,.map (WD (plS ts ds k).2) (Wv (plS ts ds k).2) (plS ts ds k).2.length)]) (fun k=>4 - k) 0 ⟨by omega,hp,by simp[plS],by simp[plS]⟩ (Qb (by simp[plS]) (by simp[plS,hfs0]) (by simp[a1,a2,n1])) ?_;rintro k L1 K1 ⟨hk,hpk,hn0,hn8⟩ hL1' - hnext hex hrt - -;have hLL:L<L1:=hL1';simp;refine Qv.mk (fun hb=>?_) fun hb=>?_
 ·have hk4:k<4:=by simp at hb;omega
  have hk':=hglk k hk4;have c1:(0:Int)<=(k:Int):=by omega
  have c2:(k:Int)<4:=by omega
  have c3:k*2+2<=8:=by omega
  have p1:∀ j:Nat,¬ (L1,j)=tb:=fun j e=>by rw[<- e] at hL1;simp at hL1;omega
  have p2:∀ j:Nat,¬ (L1,j)=mid:=fun j e=>by rw[<- e] at hL2;simp at hL2;omega
  have q1:∀ j:Nat,¬ tb=(L1,j):=fun j e=>p1 j e.symm;have q2:∀ j:Nat,¬ mid=(L1,j):=fun j e=>p2 j e.symm;have r1:¬ L1=L:=by omega
  have r2:¬ L=L1:=by omega
  have hy5:=gY_5 hk4;have w1:=wr2 k;simp[c1,c2,c3,hgl8,hk'];refine Yh (α:=Unit) (fun _=>True) (fun _=>[(0,.ptr tb 0),(3,.ptr (L,0) 0),(4,.int .i64 (plS ts ds k).1),(6,.ptr (L1,0) 0),(14,.agg gl),(15,.int .i64 (k:Int))]) (fun _=>[((L1,0),.cells 188 [.int .i64 (gY0 k),.int .i64 (gY1 k)]),((L,0),.cells 77 [.slice (ds.map QO)]),(tb,.cells 94 (.map mid :: .int .i64 ob :: .int .i64 (fs (k+1))::tc)),(mid,.map (WD (plS ts ds k).2) (Wv (plS ts ds k).2) (plS ts ds k).2.length)]) 1 ?_ ?_
  ·intro K3 hnext3 hex3 hrt3 hgo3 hpn3;by_cases h3:k=3
   ·have hy:(gY0 k == 5)=true:=by rw[hy5];simpa using h3
    have hfk:fs (k+1)=(plS ts ds k).1:=by rw[hfs,if_pos (by omega),h3]
    simp[hy,a1,p1];exact hnext3 _ () trivial (Qi (by simp) (by simp) (by simp[hfk]) (by simp[a1,a2,n1,p1,p2,r1]))
   ·have hy:(gY0 k == 5)=false:=by rw[hy5];simpa using h3
    have hfk:fs (k+1)=fs k:=by rw[hfs,if_neg (by omega),hfs,if_neg (by omega)]
    simp[hy];exact hnext3 _ () trivial (Qi (by simp) (by simp) (by simp[hfk]) (by simp[a1,a2,n1,p1,p2,r1]))
  ·rintro⟨⟩ -;simp[r1];refine QB (α:=Nat × Int × Qp) (fun x=>x.1<=ds.length/\PlOk x.2.2 ds/\Zc (gOf k) x.2 (ds.drop x.1)=plS ts ds (k+1)/\0<=x.2.1/\x.2.1<=8*(k*ds.length+x.1)) (fun x=>[(0,.ptr tb 0),(3,.ptr (L,0) 0),(4,.int .i64 x.2.1),(6,.ptr (L1,0) 0),(14,.agg gl),(15,.int .i64 (k:Int)),(26,.slice (ds.map QO)),(27,.int .i64 ds.length),(28,.int .i64 (x.1:Int))]) (fun x=>[((L1,0),.cells 188 [.int .i64 (gY0 k),.int .i64 (gY1 k)]),((L,0),.cells 77 [.slice (ds.map QO)]),(tb,.cells 94 (.map mid :: .int .i64 ob :: .int .i64 (fs (k+1))::tc)),(mid,.map (WD x.2.2) (Wv x.2.2) x.2.2.length)]) (fun x=>ds.length - x.1) (0,plS ts ds k) ⟨by simp,hpk,by simp[plS],hn0,by simpa using hn8⟩ (twk (hn:=by simp[a1,a2,n1,p1,p2,r1])) ?_;rintro⟨j,n,ts'⟩ L2 K2 ⟨hj,hpj,hqj,hj0,hj8⟩ hL2' - hnextj hexj hrtj - -;have hLL2:L1<L2:=hL2';simp at hj hpj hqj hj0 hj8;simp;refine Qv.mk (fun hb2=>?_) (fun hb2=>?_)
   ·have hjl:j<ds.length:=by simp at hb2;omega
    obtain⟨d,hd2⟩:=gE hjl;have e1:(0:Int)<=(j:Int):=by omega
    have e2:(j:Int)<ds.length:=by omega
    have w2:=wr2 j;have hdv:ds[j]=d:=by rw[List.getElem?_eq_getElem hjl] at hd2;exact Option.some.inj hd2
    have hdr:=Qqq (g:=gOf k) hd2 (n,ts');rw[hdr] at hqj;have t1:∀ j:Nat,¬ (L2,j)=tb:=fun j e=>by rw[<- e] at hL1;simp at hL1;omega
    have t2:∀ j:Nat,¬ (L2,j)=mid:=fun j e=>by rw[<- e] at hL2;simp at hL2;omega
    have u1:∀ j:Nat,¬ tb=(L2,j):=fun j e=>t1 j e.symm;have u2:∀ j:Nat,¬ mid=(L2,j):=fun j e=>t2 j e.symm;have v1:¬ L2=L:=by omega
    have v2:¬ L=L2:=by omega
    have v3:¬ L2=L1:=by omega
    have v4:¬ L1=L2:=by omega
    simp[e1,hd2,QO,Qu,v3];have hpl:∀ (hg:gOf k d.sort=true),∃ x,ts'.lookup d.name=some x/\lenOf ts' d.name=x.len/\0<=x.len/\x.len<=8:=fun hg=>by
     obtain⟨x,hx⟩:=hpj.has d (List.mem_of_getElem? hd2) (gOf_4 hk4 hg);have:=hpj.len _ _ hx;exact⟨x,hx,by unfold lenOf;rw[hx];rfl,this.1,this.2⟩
    by_cases g0:d.sort=gY0 k
    ·have g0':(d.sort == gY0 k)=true:=by simpa using g0
     simp[g0'];have hg:gOf k d.sort=true:=by show (d.sort == gY0 k||d.sort == gY1 k)=true;rw[g0'];simp
     obtain⟨x,hlk,hln,hx0,hx8⟩:=hpl hg;rw[hg,if_pos rfl] at hqj;simp only[hln] at hqj;obtain⟨kx,hk1,_,hk3⟩:=Yv ts' 0 hlk;have hvk:(Wv ts')[kx]? = some (Wa x):=by unfold Wv;rw[List.getElem?_map,hk1]<;>rfl
     have hmb:=Qnq hpj.uniq hlk n;unfold setM at hmb;rw[Zg] at hmb;simp only[Option.bind_some] at hmb;rw[if_pos (key9 _),hk3] at hmb;simp[mblk,Wa,Qu] at hmb;obtain⟨hm1,hm2,hm3⟩:=hmb;simp at hk3;have hkd:k*ds.length<=3*ds.length:=Nat.mul_le_mul_right _ (by omega);have hw3:IntKind.i64.wrap (n+x.len)=n+x.len:=wrap_i64 (by omega) (by omega);refine QJ [(9,46),(9,48),(9,47),(9,49)] (by kernel_rfl) ?_;simp[hmt,hst9,hk3,hvk,Wa,Qu,a1,a2,n1,p1,p2,t1,t2];refine⟨?_,?_⟩
     ·intro q hq v w hv hw id hid;simp at hq;rcases hq with rfl|rfl|rfl|rfl<;>(try simp at hv hw)<;>(try subst hv)<;>(try subst hw)<;>(try (simp[Qq] at hid ⊢))<;>(try simp[hid,t1,t2])
     ·simp[hw3,w2];exact hnextj _ (j+1,n+x.len,Sp.rebase ts' d.name n) ⟨by omega,hpj.rebase _ _,hqj,by simp;omega,by simp;omega⟩ (by simp;omega) (Qb (by simp) (by simp[hm1,hm2,hm3]) (by simp[a1,a2,n1,p1,p2,r1,t1,t2,v1,v3]))
    ·have g0':(d.sort == gY0 k)=false:=by simpa using g0
     by_cases g1:d.sort=gY1 k
     ·have g1':(d.sort == gY1 k)=true:=by simpa using g1
      simp[g0',g1',v3];have hg:gOf k d.sort=true:=by show (d.sort == gY0 k||d.sort == gY1 k)=true;rw[g0',g1']<;>rfl
      obtain⟨x,hlk,hln,hx0,hx8⟩:=hpl hg;rw[hg,if_pos rfl] at hqj;simp only[hln] at hqj;obtain⟨kx,hk1,_,hk3⟩:=Yv ts' 0 hlk;have hvk:(Wv ts')[kx]? = some (Wa x):=by unfold Wv;rw[List.getElem?_map,hk1]<;>rfl
      have hmb:=Qnq hpj.uniq hlk n;unfold setM at hmb;rw[Zg] at hmb;simp only[Option.bind_some] at hmb;rw[if_pos (key9 _),hk3] at hmb;simp[mblk,Wa,Qu] at hmb;obtain⟨hm1,hm2,hm3⟩:=hmb;simp at hk3;have hkd:k*ds.length<=3*ds.length:=Nat.mul_le_mul_right _ (by omega);have hw3:IntKind.i64.wrap (n+x.len)=n+x.len:=wrap_i64 (by omega) (by omega);refine QJ [(9,46),(9,48),(9,47),(9,49)] (by kernel_rfl) ?_;simp[hmt,hst9,hk3,hvk,Wa,Qu,a1,a2,n1,p1,p2,t1,t2];refine⟨?_,?_⟩
      ·intro q hq v w hv hw id hid;simp at hq;rcases hq with rfl|rfl|rfl|rfl<;>(try simp at hv hw)<;>(try subst hv)<;>(try subst hw)<;>(try (simp[Qq] at hid ⊢))<;>(try simp[hid,t1,t2])
      ·simp[hw3,w2];exact hnextj _ (j+1,n+x.len,Sp.rebase ts' d.name n) ⟨by omega,hpj.rebase _ _,hqj,by simp;omega,by simp;omega⟩ (by simp;omega) (Qb (by simp) (by simp[hm1,hm2,hm3]) (by simp[a1,a2,n1,p1,p2,r1,t1,t2,v1,v3]))
     ·have g1':(d.sort == gY1 k)=false:=by simpa using g1
      have hg:gOf k d.sort=false:=by show (d.sort == gY0 k||d.sort == gY1 k)=false;rw[g0',g1']<;>rfl
      rw[hg] at hqj;simp[g0',g1',w2,v3];exact hnextj _ (j+1,n,ts') ⟨by omega,hpj,hqj,hj0,by simp;omega⟩ (by simp;omega) (twk (hn:=by simp[a1,a2,n1,p1,p2,r1]))
   ·have hjl:j=ds.length:=by simp at hb2;omega
    subst hjl;rw[List.drop_length] at hqj;have hqj':(n,ts')=plS ts ds (k+1):=hqj;simp;refine hexj _ _ ?_;simp[w1];exact hnext _ (k+1) ⟨by omega,by rw[<- hqj'];exact hpj,by rw[<- hqj'];exact hj0,by rw[<- hqj'];simp at hj8 ⊢;rw[Int.add_mul];omega⟩ (by omega) (Qb (by simp[<- hqj']) (by simp[<- hqj']) (by simp[a1,a2,n1]))
 ·have hk4:k=4:=by simp at hb;omega
  subst hk4;simp;refine hex _ _ ?_;simp;refine hN _ ?_;have hpa:=Qqz ts ds;have hf4:fs 4=(plS ts ds 3).1:=by rw[hfs]<;>rfl
  refine .keeps [] (pS ⟨tb,mid,tid⟩ ob (Xq ts ds).1 tc (Xq ts ds).2.1) (vs:=[]) rfl (by simp) (by simp[pS,mblk,hpa,hf4]) (by simp) (by simp[Qa.keys,pS,n1]) (by simp[Qa.keys]) (.refl _) ⟨rfl,rfl⟩
def ur:V:=.agg [.mnil,.int .i64 0,.int .i64 0,.slice [],.slice [],.int .i64 0]
def Ux (t:Sp.Table):V:=.agg [.mapv (WD t.things) (Wv t.things),.int .i64 t.objects,.int .i64 t.first,.slice (t.threads.map encS),.slice (t.regs.map fun r=>.slice (r.map encS)),.int .i64 t.budget]
def vB:Except Er Sp.Table->V
 | .error e=>.tup [ur,.int .i64 e.1,.int .i64 e.2]
 | .ok t=>.tup [Ux t,.int .i64 0,.int .i64 0]
structure DsOk (ds:List Dc):Prop where
 len:ds.length<=1000000
 num:∀ d∈ds,Xg d.num
 body:∀ d∈ds,∃ n,okB n d.body
structure TOk (t:Decls) (seen:List Dc):Prop where
 objects:0<=t.objects/\t.objects<=60
 threads:t.threads.length<=6
 things:t.things.length<=40
 pl:PlOk t.things seen
theorem uj {ds:List Dc} {j:Nat} {d:Dc} (h:ds[j]? = some d) (t:Decls):Xr t (ds.drop j)=match declare t d with
 | .error e=>.error (d.place,e)
 | .ok t=>Xr t (ds.drop (j+1)):=by
 have hk:j<ds.length:=(gS h).1;have he:ds[j]=d:=(gS h).2;rw[List.drop_eq_getElem_cons hk,Xr,he]<;>cases declare t d<;>rfl
theorem UA {t:Decls} {d:Dc} {e:Int} (h:Wo t d = .error e):declare t d = .error e/\(e=2∨e=6∨e=7):=by
 have h1:declare t d = .error e:=by
  unfold Wo at h;split at h
  ·rename_i e' h';cases h;exact h'
  ·cases h
 refine⟨h1,?_⟩;unfold declare at h1;split at h1
 ·cases h1;exact .inr (.inr rfl)
 ·split at h1
  ·cases h1;exact .inr (.inl rfl)
  ·rename_i n hn;dsimp only at h1;generalize hA:(if d.sort=5 then t.threads++[WJ d] else t.threads)=A at h1;generalize hB:(if d.sort=4 then d.num.re else t.budget)=B at h1;split at h1
   ·cases h1;exact .inl rfl
   ·cases h1
theorem Uz {t t':Decls} {d:Dc} (h:Wo t d = .ok t'):t.things.lookup (WJ d)=none/\objB d=true/\
 t' = ⟨t.things++[(WJ d,⟨d.sort,0,objN d,d.num⟩)],t.objects+objN d,if d.sort=5 then t.threads++[WJ d] else t.threads,t.budget⟩/\
 declare t d = .ok { t' with budget:=if d.sort=4 then d.num.re else t.budget }/\t'.threads.length<=6/\t'.things.length<=40/\t'.objects<=60:=by
 cases hl:t.things.lookup (WJ d) with
 | some y=>
   have:declare t d = .error QCz:=by unfold declare;rw[hl]
   unfold Wo at h;rw[this] at h;cases h
 | none=>
   cases hb:objB d with
   | false=>
     have:declare t d = .error Vr:=by unfold declare;rw[hl];simp only[JO,hb]<;>rfl
     unfold Wo at h;rw[this] at h;cases h
   | true=>
     have ho:Um d=some (objN d):=by rw[JO,hb]<;>rfl
     by_cases hc:6<(if d.sort=5 then t.threads++[WJ d] else t.threads).length∨40<(t.things++[(WJ d,(⟨d.sort,0,objN d,d.num⟩:Zq))]).length∨60<t.objects+objN d
     ·have:declare t d = .error UZ:=by unfold declare;rw[hl];simp only[ho];rw[if_pos hc]
      unfold Wo at h;rw[this] at h;cases h
     ·have hd:declare t d = .ok ⟨t.things++[(WJ d,⟨d.sort,0,objN d,d.num⟩)],t.objects+objN d,if d.sort=5 then t.threads++[WJ d] else t.threads,if d.sort=4 then d.num.re else t.budget⟩:=by
       unfold declare;rw[hl];simp only[ho];rw[if_neg hc]
      unfold Wo at h;rw[hd] at h;cases h;exact⟨rfl,rfl,rfl,hd,by show (if d.sort=5 then t.threads++[WJ d] else t.threads).length<=6;omega,by show (t.things++[(WJ d,(⟨d.sort,0,objN d,d.num⟩:Zq))]).length<=40;omega,by show t.objects+objN d<=60;omega⟩
theorem TOk.step {t t':Decls} {d:Dc} {seen:List Dc} (h:TOk t seen) (hd:Wo t d = .ok t') (b:Int):TOk { t' with budget:=b } (seen++[d]):=by
 obtain⟨hl,hb,rfl,_,h6,h40,h60⟩:=Uz hd;have hn:=objN_le d hb;have hlk:∀ w,(t.things++[(WJ d,(⟨d.sort,0,objN d,d.num⟩:Zq))]).lookup w=(t.things.lookup w).or (if w=WJ d then some ⟨d.sort,0,objN d,d.num⟩ else none):=fun w=>by
  rw[List.lookup_append];congr 1;by_cases hw:w=WJ d
  ·simp[hw]
  ·have:(w == WJ d)=false:=by simpa using hw
   simp[List.lookup_cons,this,hw]
 refine⟨⟨by have:=h.objects;show 0<=t.objects+objN d;omega,h60⟩,h6,h40,⟨?_,?_,?_⟩⟩
 ·show (List.map (·.1) (t.things++[(WJ d,(⟨d.sort,0,objN d,d.num⟩:Zq))])).Nodup;rw[List.map_append,List.nodup_append];refine⟨h.pl.uniq,by simp,?_⟩;intro a ha b hb e;simp at hb;subst hb;subst e;obtain⟨x,hx,hx2⟩:=List.mem_map.1 ha;have:t.things.lookup (WJ d)≠none:=by
   rw[<- hx2];intro hno;rw[List.lookup_eq_none_iff] at hno;have:=hno x hx;simp at this
  exact this hl
 ·intro s x hx;have hx:(t.things++[(WJ d,(⟨d.sort,0,objN d,d.num⟩:Zq))]).lookup s=some x:=hx;rw[hlk] at hx;cases hs:t.things.lookup s with
  | some y=>rw[hs] at hx;cases hx;exact h.pl.len _ _ hs
  | none=>
    rw[hs] at hx;by_cases hw:s=WJ d
    ·simp[hw] at hx;subst hx;exact hn
    ·simp[hw] at hx
 ·intro d' hd' h4;show ∃ x,(t.things++[(WJ d,(⟨d.sort,0,objN d,d.num⟩:Zq))]).lookup d'.name=some x;rw[hlk];rcases List.mem_append.1 hd' with hd'|hd'
  ·obtain⟨x,hx⟩:=h.pl.has d' hd' h4;rw[hx];exact⟨x,rfl⟩
  ·simp at hd';subst hd';have:WJ d' = d'.name:=by unfold WJ;rw[if_neg h4]
   cases hs:t.things.lookup d'.name with
   | some y=>exact⟨y,rfl⟩
   | none=>exact⟨⟨d'.sort,0,objN d',d'.num⟩,by simp[this]⟩
theorem Qeq {ts:Qp} {ds:List Dc} {j:Nat} {d:Dc} (h:ds[j]? = some d):WT ts (ds.drop j)=if d.sort=5 then
 match Wu ts [] d.body with
 | .error e=>.error e
 | .ok regs=>match WT ts (ds.drop (j+1)) with
   | .error e=>.error e
   | .ok l=>.ok (regs::l)
 else WT ts (ds.drop (j+1)):=by
 have hk:j<ds.length:=(gS h).1;have he:ds[j]=d:=(gS h).2;rw[List.drop_eq_getElem_cons hk,WT,he];split
 ·cases Wu ts [] d.body with
  | error e=>rfl
  | ok r=>cases WT ts (ds.drop (j+1))<;>rfl
 ·rfl
def preL (done:List (List Bs)):Except Er (List (List Bs))->Except Er (List (List Bs))
 | .error e=>.error e
 | .ok l=>.ok (done++l)
theorem yo {C:Ctx} {f:FuncId} {args:List V} {σ:Qa} {id:Id} {t o el sz:Nat} {cs:List V} {R:Nat->AOut->Qa->Prop} (hg:σ.get id=some (.cells t cs)) (ho:cs[o]? = some .snil) (h0:0<sz) (hen:Enter C.P f)
 (h:∀ L,(∀ i,i∈Qa.keys σ->i.1<L)->AFn C f args (((L,0),.vec el sz [] 0 true)::σ.put id (.cells t (cs.set o (.vec (L,0) 0)))) fun _ o σ'=>R L o σ'):AFn C f args σ R:=by
 refine⟨hen,fun E cargs L hs hgl hargs hL=>?_⟩;have hm:=Qa.get_mem hg;have hb:=hs.blk _ _ hm;have hj:E.ι (L,0) = .unborn:=hL _ (Nat.le_refl _);have hne:(L,0)≠id:=fun e=>hb.born (e▸hj);obtain⟨bb,c,e,hh,hr,hsc,hi⟩:=hb;obtain⟨cv,hcv,hrep⟩:=hr.get ho;obtain⟨ad,rfl⟩:=Qmw hrep;obtain⟨h1,h2,h3⟩:=thaw hs hj el sz h0 ad
 let E':Amb:=⟨E.I,fun i=>if i=(L,0) then .vec (.slice ad 0 0) 0 else E.ι i,E.w⟩
 have hle:E.Le E':=h2.le;have hb':Wd E' id (.cells t (cs.set o (.vec (L,0) 0))):=by
  refine⟨bb,c,by show (if id=(L,0) then _ else _)=_;rw[if_neg (Ne.symm hne),e],hh,jG (hr.mono hle) ho fun cv h2=>?_,fun x hx=>?_,hi⟩
  ·rw[hcv] at h2;cases h2;exact .vec (by show (if (L,0)=(L,0) then _ else _)=_;rw[if_pos rfl]) (Nat.le_refl _) fun _=>rfl
  ·rcases List.mem_or_eq_of_mem_set hx with hx|rfl
   ·exact hsc x hx
   ·rfl
 have q:=h1.swap hb';have hput:Qa.put (((L,0),Blk.vec el sz [] 0 true)::σ) id (.cells t (cs.set o (.vec (L,0) 0)))=((L,0),Blk.vec el sz [] 0 true)::σ.put id (.cells t (cs.set o (.vec (L,0) 0))):=by
  rw[Qa.put,if_neg hne]
 rw[hput] at q;have hL':∀ i:Id,L+1<=i.1->E'.ι i = .unborn:=fun i hi=>h3 i (fun e=>by subst e;exact absurd hi (by simp)) (hL i (by omega));have hk:∀ i,i∈Qa.keys σ->i.1<L:=fun i hi=>by
  rcases Nat.lt_or_ge i.1 L with hx|hx
  ·exact hx
  ·obtain⟨y,hy,rfl⟩:=List.mem_map.1 hi;exact absurd (hL _ hx) (hs.blk _ _ hy).born
 refine ((h L hk).2 E' cargs (L+1) q (hgl.mono hle) (hargs.mono hle) hL').mono fun e w' ⟨E2,o2,σ',g1,g2,g3,g4,g5,g6⟩=>⟨E2,o2,σ',g1,g2,g3,g4,Grow.trans (h2.drop fun i hi=>?_) g5,fun i hi hu=>g6 i (by omega) (h3 i (fun e=>by subst e;exact absurd hi (by simp)) hu)⟩
 have ek:Qa.keys (((L,0),Blk.vec el sz [] 0 true)::σ.put id (.cells t (cs.set o (.vec (L,0) 0))))=Qa.keys (((L,0),Blk.vec el sz [] 0 true)::σ):=by
  have:=Qa.XM σ id (.cells t (cs.set o (.vec (L,0) 0)));simp only[Qa.keys,List.map_cons] at this ⊢;rw[this]
 rw[ek] at hi;exact hi
theorem QIz {C:Ctx} {f:FuncId} {args:List V} {σ σ2:Qa} {R:Nat->AOut->Qa->Prop} (h:AFn C f args σ R) (h1:∀ x,x∈σ->x∈σ2) (h2:∀ i,i∈Qa.keys σ2->i∈Qa.keys σ) (hn:(Qa.keys σ).Nodup):AFn C f args σ2 R:=
 ⟨h.1,fun E cargs L hs hg ha hL=>(h.2 E cargs L (hs.part h1 hn) hg ha hL).mono fun _ _ ⟨E',o,σ',g1,g2,g3,g4,g5,g6⟩=>⟨E',o,σ',g1,g2,g3,g4,g5.congr (fun i=>⟨fun hi=>h2 i hi,fun hi=>by
   obtain⟨y,hy,rfl⟩:=List.mem_map.1 hi;exact List.mem_map.2 ⟨y,h1 y hy,rfl⟩⟩) (fun _=>Iff.rfl),g6⟩⟩
theorem QXq (c tb mid:Id) (h1:c≠tb) (h2:c≠mid) (h3:tb≠mid) (tc:List V) (ts:Qp) (n:Nat) (l:List St) (hn:okB n l):
 AFn TC 61 [.ptr c 0,.slice (Qr l)] [(c,.cells 146 [.ptr tb 0,.snil]),(tb,.cells 94 (.map mid::tc)),(mid,mblk ts)]
  fun L o σ'=>o = .ret (erV (Wu ts [] l))/\σ' = kOE ⟨c,tb,mid,(L,0)⟩ tc ts (Wu ts [] l):=by
 have hi0:(⟨(0,0),(0,1),(0,2),(0,3)⟩:KIds).Ok:=⟨by decide,by decide,by decide,by decide,by decide,by decide⟩
 refine yo (id:=c) (o:=1) (el:=9) (sz:=1) (by simp[Qa.get];exact⟨rfl,rfl⟩) rfl (by decide) (uI _ hi0 tc ts n l [] hn (by simp)).1 fun L hL=>?_;have l1:=hL c (by simp[Qa.keys]);have l2:=hL tb (by simp[Qa.keys]);have l3:=hL mid (by simp[Qa.keys]);have hi:(⟨c,tb,mid,(L,0)⟩:KIds).Ok:=⟨h1,h2,fun e=>Nat.lt_irrefl L (by have e:c=(L,0):=e;rw[e] at l1;exact l1),h3,fun e=>Nat.lt_irrefl L (by have e:tb=(L,0):=e;rw[e] at l2;exact l2),fun e=>Nat.lt_irrefl L (by have e:mid=(L,0):=e;rw[e] at l3;exact l3)⟩
 have h:=uI _ hi tc ts n l [] hn (by simp);refine QIz h ?_ ?_ (YV hi)
 ·intro x hx;simp[kS] at hx ⊢;rcases hx with rfl|rfl|rfl|rfl<;>simp
 ·intro x hx;rw[kS_keys];simp[Qa.keys] at hx ⊢;rcases hx with rfl|rfl|rfl|rfl<;>simp
end Go.Awp.R1
