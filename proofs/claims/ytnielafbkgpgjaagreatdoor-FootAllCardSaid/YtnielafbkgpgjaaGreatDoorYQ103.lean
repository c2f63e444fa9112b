/- What a thread may touch is named by its statements: the plain law. -/
import Derived.Test.YtnielafbkgpgjaaGreatDoorYQ102
set_option linter.all false
set_option maxRecDepth 100000
set_option maxHeartbeats 8000000
namespace Go.Awp.R3
open Go.Awp.R1 Go Go.Awp Go.Proofs Go.Awp.Sp Go.Awp.B
theorem nameL_ne {l r:List Tok} {s:Bs} (h:WI l = .ok (s,r)):s≠[]:=by
 unfold WI at h;split at h
 ·rename_i h1;cases h;intro e;rw[e] at h1;exact absurd h1.2 (by decide)
 ·cases h
theorem sortOf_le (t:Tok):Wz t<=6:=by
 unfold Wz;rcases h:(List.range 6).find? (fun k=>t.isB (QW.getD k [])) with _|k
 ·simp
 ·have:=List.mem_of_find?_eq_some h;rw[List.mem_range] at this;simp;omega
def DcN (d:Dc):Prop:=WJ d≠[]/\0<=d.sort/\d.sort<=5
theorem declD_ne {f:Nat} {l r:List Tok} {d:Dc} (h:XU f l = .ok (d,r)):DcN d:=by
 unfold XU at h;have hs:=sortOf_le (hd l);simp only at h;split at h
 ·cases h
 ·rename_i h6;have mk:∀ (name:Bs) (z:Cx) (b:List St) (p:Int),(Wz (hd l)=4∨name≠[])->DcN ⟨(Wz (hd l):Int),name,z,b,p⟩:=fun name z b p hn=>by
   refine⟨?_,by simp only;omega,by simp only;omega⟩;unfold WJ;split
   ·decide
   ·rename_i h4;rcases hn with hn|hn
    ·exact absurd (by simp only;omega) h4
    ·exact hn
  split at h
  ·cases h
  ·rename_i name r1 hnm;have hn:Wz (hd l)=4∨name≠[]:=by
    split at hnm
    ·exact .inl ‹_›
    ·exact .inr (nameL_ne hnm)
   split at h
   ·rename_i h5;split at h
    ·cases h
    ·cases h;have:=mk name zero ‹_› (hd l).place hn;rw[h5] at this;exact this
   ·split at h
    ·cases h
    ·split at h
     ·cases h
     ·cases h;exact mk _ _ _ _ hn
theorem declsD_ne:∀ (f:Nat) (l:List Tok) (ds:List Dc),Xj f l = .ok ds->∀ d∈ds,DcN d
 | 0,l,ds,h=>by rw[Xj] at h;cases h
 | f+1,l,ds,h=>by
   rw[Xj] at h;split at h
   ·cases h;intro d hd;cases hd
   ·split at h
    ·cases h
    ·rename_i d r h1;split at h
     ·cases h
     ·rename_i ds' h2;cases h;intro x hx;rcases List.mem_cons.1 hx with rfl|hx
      ·exact declD_ne h1
      ·exact declsD_ne f r ds' h2 x hx
theorem parseS_ne {s:Bs} {ds:List Dc} (h:YI s = .ok ds):∀ d∈ds,DcN d:=by
 unfold YI at h;split at h
 ·cases h
 ·exact declsD_ne _ _ _ h
def getB (l:MB) (s:Bs):Int:=(l.lookup s).getD 0
theorem getB_put:∀ (l:MB) (s w:Bs) (b:Int),getB (putB l s b) w=if w=s then b else getB l w
 | [],s,w,b=>by
   unfold getB;rw[putB,List.lookup_cons];by_cases h:w=s
   ·simp[h]
   ·have:(w == s)=false:=by simpa using h
    simp[h,this]
 | (v,x)::r,s,w,b=>by
   have ih:=getB_put r s w b;unfold getB at ih ⊢;rw[putB];by_cases hv:v=s
   ·subst hv;rw[if_pos rfl,List.lookup_cons,List.lookup_cons];by_cases h:w=v
    ·simp[h]
    ·have:(w == v)=false:=by simpa using h
     simp[h,this]
   ·rw[if_neg hv,List.lookup_cons,List.lookup_cons];by_cases h:w=v
    ·subst h;simp[hv]
    ·have:(w == v)=false:=by simpa using h
     simp only[this];exact ih
def goB (g:Int->Bool):Int × (Bs->Int)->List Dc->Int × (Bs->Int)
 | a,[]=>a
 | (n,B),d::r=>if g d.sort then goB g (n+objN d,fun w=>if w=d.name then n else B w) r else goB g (n,B) r
theorem placeG_go (g:Int->Bool) (h4:g 4=false) {ds0:List Dc} (hn:(ds0.map WJ).Nodup):∀ (ds:List Dc) (n:Int) (B:Bs->Int),(∀ d∈ds,d∈ds0)->Zc g (n,tabB B ds0) ds=((goB g (n,B) ds).1,tabB (goB g (n,B) ds).2 ds0)
 | [],n,B,_=>rfl
 | d::r,n,B,hin=>by
   have ih:=fun n B=>placeG_go g h4 hn r n B fun d hd=>hin d (by simp[hd]);rw[Zc,goB];by_cases hg:g d.sort=true
   ·have h4':d.sort≠4:=fun e=>by rw[e,h4] at hg;cases hg
    have hnm:WJ d=d.name:=by unfold WJ;rw[if_neg h4']
    have hlen:lenOf (tabB B ds0) d.name=objN d:=by
     unfold lenOf;rw[<- hnm,tabB_has hn d (hin d (by simp))]<;>rfl
    rw[if_pos hg,if_pos hg,hlen,tabB_rebase,ih]
   ·rw[if_neg hg,if_neg hg,ih]
theorem fold_go {k:Int} {g:Int->Bool} {O:Bs->Int}:∀ (ds:List Dc) (Q:Bs->Prop) (n:Int) (B:Bs->Int) (mb ml:MB),(∀ d∈ds,(za d.sort=k)↔g d.sort=true)->(∀ d∈ds,g d.sort=true->(if d.sort=1 then d.num.re else 1)=objN d/\objN d=O d.name)->
 (∀ w,Q w->getB mb w=B w/\getB ml w=O w)->∃ mb' ml',ds.foldl (Ju k) (n,mb,ml)=((goB g (n,B) ds).1,mb',ml')/\∀ w,(Q w∨∃ d∈ds,g d.sort=true/\d.name=w)->getB mb' w=(goB g (n,B) ds).2 w/\getB ml' w=O w
 | [],Q,n,B,mb,ml,_,_,h=>⟨mb,ml,rfl,fun w hw=>by
   rcases hw with hw|⟨d,hd,_⟩
   ·exact h w hw
   ·cases hd⟩
 | d::r,Q,n,B,mb,ml,hg,ho,h=>by
   have hgd:=hg d (by simp);have hr:=fun d hd=>hg d (List.mem_cons_of_mem _ hd);have hro:=fun d hd=>ho d (List.mem_cons_of_mem _ hd);rw[List.foldl_cons,goB];unfold Ju;by_cases e:g d.sort=true
   ·rw[if_pos (hgd.2 e),if_pos e];obtain⟨o1,o2⟩:=ho d (by simp) e;rw[o1];obtain⟨mb',ml',h1,h2⟩:=fold_go r (fun w=>Q w∨w=d.name) (n+objN d) (fun w=>if w=d.name then n else B w) (putB mb d.name n) (putB ml d.name (objN d)) hr hro (fun w hw=>by
     rw[getB_put,getB_put];by_cases ew:w=d.name
     ·simp[ew,o2]
     ·simp only[ew,if_false];rcases hw with hw|hw
      ·exact h w hw
      ·exact absurd hw ew)
    refine⟨mb',ml',h1,fun w hw=>h2 w ?_⟩;rcases hw with hw|⟨d',hd',h3,h4⟩
    ·exact .inl (.inl hw)
    ·rcases List.mem_cons.1 hd' with rfl|hd'
     ·exact .inl (.inr h4.symm)
     ·exact .inr ⟨d',hd',h3,h4⟩
   ·rw[if_neg fun x=>e (hgd.1 x),if_neg e];obtain⟨mb',ml',h1,h2⟩:=fold_go r Q n B mb ml hr hro h;refine⟨mb',ml',h1,fun w hw=>h2 w ?_⟩;rcases hw with hw|⟨d',hd',h3,h4⟩
    ·exact .inl hw
    ·rcases List.mem_cons.1 hd' with rfl|hd'
     ·exact absurd h3 e
     ·exact .inr ⟨d',hd',h3,h4⟩
theorem objD {d:Dc} (h4:d.sort≠4):(if d.sort=1 then d.num.re else 1)=objN d:=by
 unfold objN;by_cases h1:d.sort=1
 ·simp[h1]
 ·simp[h1,h4]
theorem place_same {ds:List Dc} (hn:(ds.map WJ).Nodup) (hc:∀ d∈ds,DcN d):∃ B,(Xq (tabB (fun _=>0) ds) ds).2.1=tabB B ds/\∀ d∈ds,d.sort≠4->getB (VI ds).base d.name=B d.name/\getB (VI ds).len d.name=objN d:=by
 obtain⟨O,hO⟩:∃ O:Bs->Int,∀ d∈ds,d.sort≠4->objN d=O d.name:=⟨fun w=>lenOf (tabB (fun _=>0) ds) w,fun d hd h4=>by
  have hnm:WJ d=d.name:=by unfold WJ;rw[if_neg h4]
  show objN d=lenOf (tabB (fun _=>0) ds) d.name;rw[<- hnm];unfold lenOf;rw[tabB_has hn d hd];rfl⟩
 have gr:∀ (k:Int) (g:Int->Bool),(∀ s:Int,0<=s->s<=5->((za s=k)↔g s=true))->∀ d∈ds,(za d.sort=k)↔g d.sort=true:=fun k g h d hd=>h _ (hc d hd).2.1 (hc d hd).2.2;have ob:∀ (g:Int->Bool),g 4=false->∀ d∈ds,g d.sort=true->(if d.sort=1 then d.num.re else 1)=objN d/\objN d=O d.name:=fun g h4 d hd hg=>by
  have:d.sort≠4:=fun e=>by rw[e,h4] at hg;cases hg
  exact⟨objD this,hO d hd this⟩
 have six:∀ (k:Int) (g:Int->Bool),((za 0=k)↔g 0=true)->((za 1=k)↔g 1=true)->((za 2=k)↔g 2=true)->((za 3=k)↔g 3=true)->((za 4=k)↔g 4=true)->((za 5=k)↔g 5=true)->∀ s:Int,0<=s->s<=5->((za s=k)↔g s=true):=fun k g a0 a1 a2 a3 a4 a5 s h0 h5=>by
  have:s=0∨s=1∨s=2∨s=3∨s=4∨s=5:=by omega
  rcases this with rfl|rfl|rfl|rfl|rfl|rfl<;>assumption
 obtain⟨b0,l0,p0,q0⟩:=fold_go (k:=0) (g:=fun s=>s == 0||s == 1) (O:=O) ds (fun _=>False) 0 (fun _=>0) [] [] (gr 0 (fun s=>s == 0||s == 1) (six 0 (fun s=>s == 0||s == 1) (by decide) (by decide) (by decide) (by decide) (by decide) (by decide))) (ob (fun s=>s == 0||s == 1) rfl) (fun _ h=>h.elim);obtain⟨a0,ha0⟩:∃ a,goB (fun s=>s == 0||s == 1) (0,fun _=>0) ds=a:=⟨_,rfl⟩
 rw[ha0] at p0 q0;obtain⟨b1,l1,p1,q1⟩:=fold_go (k:=1) (g:=fun s=>s == 2) (O:=O) ds _ a0.1 a0.2 b0 l0 (gr 1 (fun s=>s == 2) (six 1 (fun s=>s == 2) (by decide) (by decide) (by decide) (by decide) (by decide) (by decide))) (ob (fun s=>s == 2) rfl) q0;obtain⟨a1,ha1⟩:∃ a,goB (fun s=>s == 2) (a0.1,a0.2) ds=a:=⟨_,rfl⟩
 rw[ha1] at p1 q1;obtain⟨b2,l2,p2,q2⟩:=fold_go (k:=2) (g:=fun s=>s == 3) (O:=O) ds _ a1.1 a1.2 b1 l1 (gr 2 (fun s=>s == 3) (six 2 (fun s=>s == 3) (by decide) (by decide) (by decide) (by decide) (by decide) (by decide))) (ob (fun s=>s == 3) rfl) q1;obtain⟨a2,ha2⟩:∃ a,goB (fun s=>s == 3) (a1.1,a1.2) ds=a:=⟨_,rfl⟩
 rw[ha2] at p2 q2;obtain⟨b3,l3,p3,q3⟩:=fold_go (k:=3) (g:=fun s=>s == 5) (O:=O) ds _ a2.1 a2.2 b2 l2 (gr 3 (fun s=>s == 5) (six 3 (fun s=>s == 5) (by decide) (by decide) (by decide) (by decide) (by decide) (by decide))) (ob (fun s=>s == 5) rfl) q2;obtain⟨a3,ha3⟩:∃ a,goB (fun s=>s == 5) (a2.1,a2.2) ds=a:=⟨_,rfl⟩
 rw[ha3] at p3 q3;have hp:Xx ds 4=(a3.1,b3,l3):=by
  show ds.foldl (Ju 3) (ds.foldl (Ju 2) (ds.foldl (Ju 1) (ds.foldl (Ju 0) (0,[],[]))))=_;rw[p0,p1,p2,p3]
 refine⟨a3.2,?_,fun d hd h4=>?_⟩
 ·unfold Xq;simp only[placeG_go (fun s=>s == 0||s == 1) rfl hn ds 0 (fun _=>0) fun _ h=>h,ha0,placeG_go (fun s=>s == 2) rfl hn ds a0.1 a0.2 fun _ h=>h,ha1,placeG_go (fun s=>s == 3) rfl hn ds a1.1 a1.2 fun _ h=>h,ha2,placeG_go (fun s=>s == 5) rfl hn ds a2.1 a2.2 fun _ h=>h,ha3]
 ·unfold VI;rw[hp];have hs:=hc d hd;have hs2:=hs.2;rw[hO d hd h4];refine q3 _ ?_;have:d.sort=0∨d.sort=1∨d.sort=2∨d.sort=3∨d.sort=5:=by omega
  rcases this with h|h|h|h|h
  ·exact .inl (.inl (.inl (.inr ⟨d,hd,by simp[h],rfl⟩)))
  ·exact .inl (.inl (.inl (.inr ⟨d,hd,by simp[h],rfl⟩)))
  ·exact .inl (.inl (.inr ⟨d,hd,by simp[h],rfl⟩))
  ·exact .inl (.inr ⟨d,hd,by simp[h],rfl⟩)
  ·exact .inr ⟨d,hd,by simp[h],rfl⟩
def InsA (ts:Qp) (l:List St) (x:Ins):Prop:=Qz x.kind=true->∃ s∈l,∃ y,ts.lookup s.name=some y/\x.base=y.base/\x.len=y.len/\y.sort≠4
theorem InsA.up {ts:Qp} {l l':List St} {x:Ins} (h:InsA ts l x) (hs:∀ s∈l,s∈l'):InsA ts l' x:=fun hk=>by
 obtain⟨s,h1,h2⟩:=h hk;exact⟨s,hs s h1,h2⟩
theorem wantS_ne (k:Int) (ix:Bool):Sp.uw k ix≠4:=by
 unfold Sp.uw
 repeat' split
 all_goals decide
theorem plainI_A {ts:Qp} {s:St} (regs:List Bs) (h:Yb ts s=0):InsA ts [s] (wR ts regs s):=fun hk=>by
 have hk:Qz s.kind=true:=hk;unfold Yb at h;rw[hk] at h;simp only[if_true] at h;cases hl:ts.lookup s.name with
 | none=>rw[hl] at h;simp[wv] at h
 | some y=>
   rw[hl] at h;simp only at h;refine⟨s,by simp,y,hl,?_,?_,?_⟩
   ·simp[wR,hk,hl]
   ·simp[wR,hk,hl,lenOf]
   ·by_cases e:y.sort=Sp.uw s.kind s.indexed
    ·rw[e];exact wantS_ne _ _
    ·rw[if_neg e] at h;simp[Jh] at h
mutual
theorem insS_A {ts:Qp}:∀ (s:St) (rg r:List Bs),qM ts rg s = .ok r->∀ (regs:List Bs) (p:Nat),∀ x∈insS ts regs p s,InsA ts (allS s) x
 | .mk k reg name ix xs body els pl,rg,r,h,regs,p=>by
   rw[qM] at h;split at h
   ·cases h
   ·rename_i hab;have hab:Yb ts (.mk k reg name ix xs body els pl)=0:=Decidable.byContradiction hab;split at h
    ·cases h
    ·split at h
     ·cases h
     ·split at h
      ·cases h
      ·rename_i rg2 h2;by_cases hk:k<15
       ·rw[insS,if_pos hk];intro x hx;rw[List.mem_singleton] at hx;subst hx;exact (plainI_A regs hab).up (by simp[allS])
       ·rw[yS hk];have h1:∀ q,∀ x∈insL ts regs q body,InsA ts (allS (.mk k reg name ix xs body els pl)) x:=fun q x hx=>(insL_A body _ _ h2 regs q x hx).up fun s hs=>by rw[allS];simp[hs]
        have h3:∀ q,∀ x∈insL ts regs q els,InsA ts (allS (.mk k reg name ix xs body els pl)) x:=fun q x hx=>(insL_A els _ _ h regs q x hx).up fun s hs=>by rw[allS];simp[hs]
        have hb:∀ xs to,InsA ts (allS (.mk k reg name ix xs body els pl)) (WS xs to):=fun _ _ h=>by cases h
        have hj:∀ to,InsA ts (allS (.mk k reg name ix xs body els pl)) (Vo to):=fun _ h=>by cases h
        simp only;split
        ·intro x hx;rcases List.mem_cons.1 hx with rfl|hx
         ·exact hb _ _
         ·rcases List.mem_append.1 hx with hx|hx
          ·exact h1 _ x hx
          ·rw[List.mem_singleton] at hx;subst hx;exact hj _
        ·split
         ·intro x hx;rcases List.mem_cons.1 hx with rfl|hx
          ·exact hb _ _
          ·exact h1 _ x hx
         ·intro x hx;rcases List.mem_cons.1 hx with rfl|hx
          ·exact hb _ _
          ·rcases List.mem_append.1 hx with hx|hx
           ·rcases List.mem_append.1 hx with hx|hx
            ·exact h1 _ x hx
            ·rw[List.mem_singleton] at hx;subst hx;exact hj _
           ·exact h3 _ x hx
theorem insL_A {ts:Qp}:∀ (l:List St) (rg r:List Bs),Wu ts rg l = .ok r->∀ (regs:List Bs) (p:Nat),∀ x∈insL ts regs p l,InsA ts (allL l) x
 | [],rg,r,_,regs,p=>by rw[insL];intro x hx;cases hx
 | s::rest,rg,r,h,regs,p=>by
   rw[Wu] at h;split at h
   ·cases h
   ·rename_i rg2 h1;rw[insL];intro x hx;rcases List.mem_append.1 hx with hx|hx
    ·exact (insS_A s _ _ h1 regs p x hx).up fun s hs=>by rw[allL];simp[hs]
    ·exact (insL_A rest _ _ h regs _ x hx).up fun s hs=>by rw[allL];simp[hs]
end
theorem makeL_nth {ts:Qp} {rs:List (List Bs)}:∀ (ds:List Dc) (p q:Pg),XO ts rs p ds=some q->p.threads.length+(VY ds).length=q.threads.length/\∀ (i:Nat) (th:Th),q.threads[i]? = some th->(i<p.threads.length/\p.threads[i]? = some th)∨∃ (j:Nat) (b:List St) (regs:List Bs),i=p.threads.length+j/\(VY ds)[j]? = some b/\th.code=insL ts regs 0 b
 | [],p,q,h=>by
   rw[XO] at h;cases h;exact⟨by simp[VY],fun i th hi=>.inl ⟨(gS hi).1,hi⟩⟩
 | d::r,p,q,h=>by
   rw[XO] at h;have same:d.sort≠5->VY (d::r)=VY r:=fun h5=>by
    have:(d.sort == 5)=false:=by simpa using h5
    simp[VY,this]
   split at h
   ·rename_i hs;rw[same (by omega)];have:=makeL_nth r _ q h;exact this
   ·split at h
    ·rename_i hs;rw[same (by omega)];have:=makeL_nth r _ q h;exact this
    ·split at h
     ·rename_i hs;rw[same (by omega)];have:=makeL_nth r _ q h;exact this
     ·split at h
      ·rename_i hs;rw[same (by omega)];have:=makeL_nth r _ q h;exact this
      ·split at h
       ·rename_i h5;simp only at h;split at h
        ·cases h
        ·have hb:VY (d::r)=d.body::VY r:=by simp[VY,h5]
         rw[hb];obtain⟨h1,h2⟩:=makeL_nth r _ q h;simp only[List.length_append,List.length_singleton] at h1 h2;refine⟨by rw[List.length_cons];omega,fun i th hi=>?_⟩;rcases h2 i th hi with⟨h3,h4⟩|⟨j,b,regs,h3,h4,h5⟩
         ·by_cases e:i<p.threads.length
          ·rw[List.getElem?_append_left e] at h4;exact .inl ⟨e,h4⟩
          ·have:i=p.threads.length:=by omega
           subst this;rw[List.getElem?_append_right (Nat.le_refl _)] at h4;simp at h4;subst h4;exact .inr ⟨0,d.body,_,by omega,rfl,rfl⟩
         ·exact .inr ⟨j+1,b,regs,by omega,by simpa using h4,h5⟩
       ·rename_i h5;rw[same h5];have:=makeL_nth r _ q h;exact this
def nameB (tb:Tab7) (o:Int) (s:St):Bool:=(s.name != [])&&(decide (getB tb.base s.name<=o)&&decide (o<getB tb.base s.name+getB tb.len s.name))
theorem named_all {s:Bs} {ds:List Dc} {t:Sp.Table} {p:Pg} (hp:YI s = .ok ds) (hc:Ya ds = .ok t) (hm:zI t ds=some p):(VY ds).length=p.threads.length/\∀ (k:Nat) (th:Th),p.threads[k]? = some th->∃ b,(VY ds)[k]? = some b/\∀ m∈(newE k (VK p k th.code 0)).m,m.o=WX p k∨∃ x∈allL b,nameB (VI ds) m.o x=true:=by
 have hne:=parseS_ne hp;obtain⟨⟨n1,n2,n3,n4,-,hl⟩,hb⟩:=checkS_laid hc;have hts:∃ B,t.things=tabB B ds/\∀ d∈ds,d.sort≠4->getB (VI ds).base d.name=B d.name/\getB (VI ds).len d.name=objN d:=by
  have hc2:=hc;unfold Ya at hc2;split at hc2
  ·cases hc2
  ·rename_i t0 h0;obtain⟨e1,e2,e3⟩:=declareL_things ds [] _ _ (by simp) (by simp) rfl h0;simp only[List.nil_append] at e1 e2 e3;split at hc2
   ·cases hc2
   ·simp only at hc2;split at hc2
    ·cases hc2
    ·cases hc2;rw[e1];exact place_same e2 hne
 obtain⟨B,hB,hpl⟩:=hts;obtain⟨hlen,hnth⟩:=makeL_nth _ _ _ hm;refine⟨by simpa using hlen,fun k th ht=>?_⟩;rcases hnth k th ht with⟨h,-⟩|⟨j,b,regs,hj,hbj,hcode⟩
 ·simp at h
 ·have hkj:k=j:=by simpa using hj
  subst hkj;refine⟨b,hbj,fun m hmm=>?_⟩;have hbm:=List.mem_of_getElem? hbj;unfold VY at hbm;obtain⟨d,hd,rfl⟩:=List.mem_map.1 hbm;obtain⟨hd1,hd5⟩:=List.mem_filter.1 hd;obtain⟨r,hr⟩:=hb d hd1 (by simpa using hd5);have h1:=((mem_newE _ _ _).1 hmm).1;rw[of_some,Bool.or_eq_true,decide_eq_true_eq] at h1;rcases h1 with h1|h1
  ·exact .inl h1
  ·right;unfold anyX at h1;obtain⟨i,hi,h3⟩:=List.any_eq_true.1 h1;have hil:=(mem_reachL.1 hi).1;have hx:th.code.getD i default∈th.code:=by rw[List.getD_eq_getElem?_getD,List.getElem?_eq_getElem hil];exact List.getElem_mem hil
   generalize th.code.getD i default=x at h3 hx;rw[hcode] at hx;unfold touchB at h3;simp only[Bool.and_eq_true,decide_eq_true_eq] at h3;obtain⟨⟨⟨k1,k2⟩,k3⟩,k4⟩:=h3;obtain⟨s',hs',y,hy,e1,e2,e3⟩:=insL_A _ _ _ hr regs 0 x hx (by unfold Qz;simp;omega);rw[hB] at hy;obtain⟨d',hd',hn,rfl⟩:=tabB_lookup hy;have e3:d'.sort≠4:=e3;have hnm:WJ d' = d'.name:=by unfold WJ;rw[if_neg e3]
   obtain⟨g1,g2⟩:=hpl d' hd' e3;have hnn:=(hne d' hd').1;refine⟨s',hs',?_⟩;rw[hnm] at hn hnn;unfold nameB;rw[<- hn,g1,g2];simp only at e1 e2;rw[<- hn] at e1;have:(d'.name != [])=true:=by simpa using hnn
   rw[this];simp;omega
theorem findB_look (s:Bs):∀ (l:MB) (i:Nat),(l.lookup s=none/\Jd (.str (bs s)) (Yf l) i=some none)∨∃ k b,l.lookup s=some b/\(YT l)[k]? = some (.int .i64 b)/\Jd (.str (bs s)) (Yf l) i=some (some (i+k))
 | [],i=>.inl ⟨rfl,rfl⟩
 | (w,x)::r,i=>by
   have hf:Jd (.str (bs s)) (Yf ((w,x)::r)) i=(match JT (.str (bs s)) (.str (bs w)) with|some true=>some (some i)|some false=>Jd (.str (bs s)) (Yf r) (i+1)|none=>none):=rfl;have hk:JT (.str (bs s)) (.str (bs w))=some (s == w):=by show some (bs s == bs w)=_;rw[Qdz]
   rw[hf,hk,List.lookup_cons];cases h:(s == w) with
   | true=>exact .inr ⟨0,x,rfl,rfl,rfl⟩
   | false=>
     rcases findB_look s r (i+1) with⟨h1,h2⟩|⟨k,b,h1,h2,h3⟩
     ·exact .inl ⟨h1,h2⟩
     ·refine .inr ⟨k+1,b,h1,h2,?_⟩;simp only;rw[h3];congr 2;omega
theorem lookB (l:MB) (s:Bs):XS TC.P 28 (Yf l) (YT l) (.str (bs s)) false=some (.int .i64 (getB l s)):=by
 have hz:QQ TC.P 3=some (.int .i64 0):=by kernel_rfl
 unfold XS;rw[mapT28];simp only[Option.bind_some];rw[if_pos (key9 s)];unfold getB;rcases findB_look s l 0 with⟨h1,h2⟩|⟨k,b,h1,h2,h3⟩
 ·rw[h1,h2];simp[hz]
 ·rw[h1,h3];simp[h2]
theorem putB_mem:∀ (l:MB) (s:Bs) (b:Int),∀ x∈putB l s b,x∈l∨x.2=b
 | [],s,b,x,h=>by rw[putB,List.mem_singleton] at h;exact .inr (by rw[h])
 | (w,y)::r,s,b,x,h=>by
   rw[putB] at h;split at h
   ·rcases List.mem_cons.1 h with rfl|h
    ·exact .inr rfl
    ·exact .inl (List.mem_cons_of_mem _ h)
   ·rcases List.mem_cons.1 h with rfl|h
    ·exact .inl List.mem_cons_self
    ·rcases putB_mem r s b x h with h|h
     ·exact .inl (List.mem_cons_of_mem _ h)
     ·exact .inr h
structure SmallP (B:Int) (a:Int × MB × MB):Prop where
 at_:-B<=a.1/\a.1<=B
 base:∀ x∈a.2.1,-B<=x.2/\x.2<=B
 len:∀ x∈a.2.2,-1048576<=x.2/\x.2<=1048576
theorem foldS {p:Int}:∀ (ds:List Dc) (a:Int × MB × MB) (B:Int),(∀ d∈ds,Xg d.num)->SmallP B a->SmallP (B+1048576*ds.length) (ds.foldl (Ju p) a)
 | [],a,B,_,h=>by simpa using h
 | d::r,a,B,hn,h=>by
   rw[List.foldl_cons,List.length_cons];have hz:=(hn d (by simp)).1;have:=foldS (p:=p) r (Ju p a d) (B+1048576) (fun x hx=>hn x (by simp[hx])) (by
    unfold Ju;have h1:=h.at_;split
    ·refine⟨by simp only;split<;>omega,fun x hx=>?_,fun x hx=>?_⟩
     ·rcases putB_mem _ _ _ x hx with hx|hx
      ·have:=h.base x hx;omega
      ·omega
     ·rcases putB_mem _ _ _ x hx with hx|hx
      ·exact h.len x hx
      ·split at hx<;>omega
    ·refine⟨by omega,fun x hx=>?_,h.len⟩;have:=h.base x hx;omega)
   refine⟨?_,fun x hx=>?_,this.len⟩
   ·have:=this.at_;omega
   ·have:=this.base x hx;omega
theorem getB_mem {l:MB} {w:Bs}:getB l w=0∨∃ x∈l,getB l w=x.2:=by
 unfold getB;cases h:l.lookup w with
 | none=>exact .inl rfl
 | some b=>
   right
   induction l with
   | nil=>cases h
   | cons x r ih=>
     rw[List.lookup_cons] at h;split at h
     ·cases h;exact⟨x,by simp,rfl⟩
     ·obtain⟨y,hy,e⟩:=ih h;exact⟨y,by simp[hy],e⟩
theorem placeP_small {ds:List Dc} (hn:∀ d∈ds,Xg d.num) (hl:ds.length<=1000000) (w:Bs):(-4398046511104<=getB (VI ds).base w/\getB (VI ds).base w<=4398046511104)/\(-1048576<=getB (VI ds).len w/\getB (VI ds).len w<=1048576):=by
 have h0:SmallP 0 (0,[],[]):=⟨by simp,by simp,by simp⟩
 have h:=foldS (p:=3) ds _ _ hn (foldS (p:=2) ds _ _ hn (foldS (p:=1) ds _ _ hn (foldS (p:=0) ds _ _ hn h0)));constructor
 ·rcases getB_mem (l:=(VI ds).base) (w:=w) with e|⟨x,hx,e⟩
  ·omega
  ·have:=h.base x hx;omega
 ·rcases getB_mem (l:=(VI ds).len) (w:=w) with e|⟨x,hx,e⟩
  ·omega
  ·have:=h.len x hx;omega
theorem any_take {f:St->Bool} {l:List St} {q:Nat} {x:St} (h:l[q]? = some x):(l.take (q+1)).any f=((l.take q).any f||f x):=by
 rw[List.take_succ,h,List.any_append];simp
theorem FootAll_ok (x:Sm) (hx:Rng x):Ql TC 4 [Zj x] (.bool true):=by
 have hz:=jn;have hz30:=QNq;have hli:=Light_ok x;have hbd:=fun h=>Bodies_ok x (hx.ok h);simp only[Zj] at hli hbd;refine ent Tryz.func4 fun L K hL hR hN hP=>?_;simp[Zj];refine Qc Wnq ?_;simp;refine Qc hli ?_;cases hl:JV x with
 | false=>
   simp;exact hR _ (.pure rfl (.refl _))
 | true=>
   simp;refine Qe.ZN (hbd hl) (by decide) rfl ?_;rintro v (⟨l,b1,b2,n,p,rfl⟩|⟨s,ds,t,p,h1,h2,h3,h4,rfl⟩)
   ·simp[Yw,hz,hz30];exact hR _ (.pure rfl (.refl _))
   ·have hmk:=read_mk (by omega) h2 h3;have hmd:=made_of hmk h3 h4;have hof:=fun (k:Nat) th ht (j:Int)=>Of_ok p hmd.ok k th ht j (New_all _ _ (ofMarks_len hmd.ok ht j));have hst:=fun (k:Nat) hk=>yq p hmd.ok.small k hk;have hpt:=hmd.few.1;obtain⟨hbl,hnm⟩:=named_all h2 h3 h4;have hds:=wS (by omega) h2;have hsm:=placeP_small hds.num hds.len;simp only[Yw] at hof hst;simp[Yw,VU,hz,hz30];obtain⟨PC,hPC⟩:∃ PC:List V,PC=[.slice (p.threads.map XA),.slice (p.cells.map Qu),.int .i64 p.mutexes,.slice (p.sems.map fun n=>.int .i64 n),.int .i64 p.budget]:=⟨_,rfl⟩
    obtain⟨T7,hT7⟩:∃ T7:Tab7,T7=VI ds:=⟨_,rfl⟩
    rw[<- hT7] at hnm hsm ⊢;obtain⟨BD,hBD⟩:∃ BD,BD=VY ds:=⟨_,rfl⟩
    rw[<- hBD] at hnm hbl ⊢;have hbn:∀ b∈BD,∃ n,okB n b:=fun b hb=>by
     rw[hBD] at hb;unfold VY at hb;obtain⟨d,hd,rfl⟩:=List.mem_map.1 hb;exact hds.body d (List.mem_filter.1 hd).1
    have hcn:∀ b∈BD,cntL b<=500000:=fun b hb=>by
     rw[hBD] at hb;unfold VY at hb;obtain⟨d,hd,rfl⟩:=List.mem_map.1 hb;exact hmk.cnt d (List.mem_filter.1 hd).1
    refine QB (α:=Nat) (fun k=>k<=p.threads.length) (fun k=>[(3,.slice (BD.map fun b=>.slice (Qr b))),(4,.ptr (L,1) 0),(5,.ptr (L,2) 0),(29,.int .i64 p.threads.length),(30,.int .i64 (k:Int))]) (fun _=>[((L,1),.cells 30 [.mapv (Yf T7.base) (YT T7.base),.mapv (Yf T7.len) (YT T7.len),.int .i64 T7.first]),((L,2),.cells 35 PC)]) (fun k=>p.threads.length - k) 0 (by simp) (Qb (by simp) (by simp[hPC]) (by simp)) ?_;rintro k L1 K1 hk hL1 - hnext hex hrt - -;subst hPC;obtain⟨hLL,m4,m5⟩:=llu L hL1;simp;refine Qv.mk (fun hb=>?_) fun hb=>?_
    ·have hkl:k<p.threads.length:=by simp at hb;omega
     have w1:=wr2 k;obtain⟨e1,e2⟩:=il hkl;obtain⟨th,ht⟩:=gE hkl;have hte:=(gS ht).2;have hof:=hof k th ht;have hst:=hst k ⟨by omega,by omega⟩;have hMl:(newE k (VK p k th.code 0)).m.length<=1000000:=Nat.le_trans (newE_length _ _) (ofMarks_len hmd.ok ht 0);obtain⟨b,hbk,hnb⟩:=hnm k th ht;have hbe:=(gS hbk).2;have hkb:=(gS hbk).1;have e3:(k:Int)<BD.length:=by omega
     have hbm:=List.mem_of_getElem? hbk;obtain⟨nn,hnn⟩:=hbn b hbm;have hcb:=hcn b hbm;have hal:=all_ok nn b hnn (by omega);have hall:=allL_len b;obtain⟨A,hA⟩:∃ A,A=allL b:=⟨_,rfl⟩
     rw[<- hA] at hnb hal hall;have hof0:=hof 0;obtain⟨M,hM⟩:∃ M,(newE k (VK p k th.code 0)).m=M:=⟨_,rfl⟩
     rw[hM] at hof0 hnb hMl;simp[hkl];refine Qc hof0 ?_;simp;refine QB (α:=Nat) (fun j=>j<=M.length) (fun j=>[(3,.slice (BD.map fun b=>.slice (Qr b))),(4,.ptr (L,1) 0),(5,.ptr (L,2) 0),(7,.int .i64 (k:Int)),(29,.int .i64 p.threads.length),(30,.int .i64 (k:Int)),(35,.slice (M.map encM)),(36,.int .i64 M.length),(37,.int .i64 (j:Int))])
      (fun _=>[((L,1),.cells 30 [.mapv (Yf T7.base) (YT T7.base),.mapv (Yf T7.len) (YT T7.len),.int .i64 T7.first]),((L,2),.cells 35 [.slice (p.threads.map XA),.slice (p.cells.map Qu),.int .i64 p.mutexes,.slice (p.sems.map fun n=>.int .i64 n),.int .i64 p.budget])]) (fun j=>M.length - j) 0 (by simp) twk ?_
     rintro j L2 K2 hj hL2 - hnext2 hex2 hrt2 - -;have hL12:L1<L2:=hL2;have m6:¬ L2=L:=by omega
     have m7:¬ L=L2:=by omega
     simp;refine Qv.mk (fun hb=>?_) fun hb=>?_
     ·have hjl:j<M.length:=by simp at hb;omega
      have v1:=wr2 j;obtain⟨j1,j2⟩:=il hjl;obtain⟨m,hm⟩:=gE hjl;have hme:=(gS hm).2;have hnm:=hnb m (List.mem_of_getElem? hm);simp[j1,hjl,hme,encM,m6];refine Qc hst ?_;simp[e1,hkb,hbe];refine Qc hal ?_;simp;have hel:(Qr A).length=A.length:=by rw[WG,List.length_map]
      refine QB (α:=Nat) (fun q=>q<=A.length) (fun q=>[(3,.slice (BD.map fun b=>.slice (Qr b))),(4,.ptr (L,1) 0),(5,.ptr (L,2) 0),(7,.int .i64 (k:Int)),(9,.ptr (L2,0) 0),(10,.bool ((m.o == WX p k)||(A.take q).any (nameB T7 m.o))),(29,.int .i64 p.threads.length),(30,.int .i64 (k:Int)),(35,.slice (M.map encM)),(36,.int .i64 M.length),(37,.int .i64 (j:Int)),(51,.slice (Qr A)),(52,.int .i64 A.length),(53,.int .i64 (q:Int))])
       (fun _=>[((L2,0),.cells 49 [.int .i64 m.o,.bool m.w]),((L,1),.cells 30 [.mapv (Yf T7.base) (YT T7.base),.mapv (Yf T7.len) (YT T7.len),.int .i64 T7.first]),((L,2),.cells 35 [.slice (p.threads.map XA),.slice (p.cells.map Qu),.int .i64 p.mutexes,.slice (p.sems.map fun n=>.int .i64 n),.int .i64 p.budget])]) (fun q=>A.length - q) 0 (by simp) (Qb (by simp[hel]) (by simp) (by simp[m6])) ?_
      rintro q L3 K3 hq hL3 - hnext3 hex3 hrt3 - -;have hL23:L2<L3:=hL3;have m8:¬ L3=L:=by omega
      have m9:¬ L=L3:=by omega
      have n1:¬ L3=L2:=by omega
      have n2:¬ L2=L3:=by omega
      simp;refine Qv.mk (fun hb=>?_) fun hb=>?_
      ·have hql:q<A.length:=by simp at hb;omega
       have u1:=wr2 q;obtain⟨q1,q2⟩:=il hql;obtain⟨s,hs⟩:=gE hql;have hes:(Qr A)[q]? = some (We s):=by rw[WG,List.getElem?_map,hs]<;>rfl
       have hes2:=(gS hes).2;have hqs:q<(Qr A).length:=by omega
       have hany:=any_take (f:=nameB T7 m.o) hs;obtain⟨kd,reg,name,ix,xs,body,els,pl⟩:=s;obtain⟨⟨b0,b1⟩,b2,b3⟩:=hsm name;have lk1:=lookB T7.base name;have lk2:=lookB T7.len name;have hw:=wrap_i64 (n:=getB T7.base name+getB T7.len name) (by omega) (by omega);have hnb2:nameB T7 m.o (.mk kd reg name ix xs body els pl)=((name != [])&&(decide (getB T7.base name<=m.o)&&decide (m.o<getB T7.base name+getB T7.len name))):=rfl;have hall2:((m.o == WX p k)||(A.take (q+1)).any (nameB T7 m.o))=(((m.o == WX p k)||(A.take q).any (nameB T7 m.o))||((name != [])&&(decide (getB T7.base name<=m.o)&&decide (m.o<getB T7.base name+getB T7.len name)))):=by rw[hany,hnb2,Bool.or_assoc]
       have hbe:name.isEmpty=(name == []):=by cases name<;>rfl
       have hbn:(name != []) = !(name == []):=rfl;rw[hbn] at hall2;generalize ((m.o == WX p k)||(A.take q).any (nameB T7 m.o))=S at hall2 ⊢;generalize hc1:(name == [])=c1 at hall2 hbe;generalize hc2:decide (getB T7.base name<=m.o)=c2 at hall2;generalize hc3:decide (m.o<getB T7.base name+getB T7.len name)=c3 at hall2;have hc2':decide (m.o ≥ getB T7.base name)=c2:=hc2;cases S with
       | true=>
         simp only[Bool.true_or] at hall2;simp[q1,hes,We];exact hnext3 _ (q+1) (by omega) (by omega) (Qb (by simp[hall2,u1]) (by simp) (by simp[m8,n1]))
       | false=>
         cases c1 with
         | true=>
           simp only[Bool.not_true,Bool.false_or,Bool.false_and] at hall2;simp[q1,hes,We,hbe];exact hnext3 _ (q+1) (by omega) (by omega) (Qb (by simp[hall2,u1]) (by simp) (by simp[m8,n1]))
         | false=>
           cases c2 with
           | false=>
             simp only[Bool.not_false,Bool.false_or,Bool.true_and,Bool.false_and] at hall2;simp[q1,hes,We,m8,n1,hbe,lk1,hc2,-XS];exact hnext3 _ (q+1) (by omega) (by omega) (Qb (by simp[hall2,u1]) (by simp) (by simp[m8,n1]))
           | true=>
             simp only[Bool.not_false,Bool.false_or,Bool.true_and] at hall2;simp[q1,hes,We,m8,n1,hbe,lk1,lk2,hw,hc2,hc3,-XS];exact hnext3 _ (q+1) (by omega) (by omega) (Qb (by simp[hall2,u1]) (by simp) (by simp[m8,n1]))
      ·have hql:q=A.length:=by simp at hb;omega
       subst hql;rw[List.take_length];simp;refine hex3 _ _ ?_;have hyes:((m.o == WX p k)||A.any (nameB T7 m.o))=true:=by
        rw[Bool.or_eq_true,beq_iff_eq,List.any_eq_true];exact hnm
       simp[hyes,v1];exact hnext2 _ (j+1) (by omega) (by omega) (Qb (by simp) (by simp[m7]) (by simp[m6]))
     ·have hjl:j=M.length:=by simp at hb;omega
      simp;refine hex2 _ _ ?_;simp[w1];exact hnext _ (k+1) (by omega) (by omega) twk
    ·have hkl:k=p.threads.length:=by simp at hb;omega
     subst hkl;simp;refine hex _ _ ?_;simp;exact hR _ (.pure rfl (.refl _))
end Go.Awp.R3
