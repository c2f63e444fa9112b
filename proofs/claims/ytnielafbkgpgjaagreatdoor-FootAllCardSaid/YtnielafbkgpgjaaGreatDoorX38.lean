/- Marks put together and sorted: what is in them; two rising rows of the same marks are one. -/
import Derived.Test.YtnielafbkgpgjaaGreatDoorX32
import Derived.Shelf.SlSortCmp.WholeK
import Derived.Test.YtnielafbkgpgjaaGreatDoorProg
set_option linter.all false
set_option maxRecDepth 100000
set_option maxHeartbeats 8000000
namespace Go.Awp.B
theorem eq_of_rising:∀ {l l':List Mk},l.Pairwise (fun a b=>a.o<b.o)->l'.Pairwise (fun a b=>a.o<b.o)->(∀ m,m∈l↔m∈l')->l=l'
 | [],[],_,_,_=>rfl
 | [],b::s,_,_,h=>by have:=(h b).2 (by simp);simp at this
 | a::r,[],_,_,h=>by have:=(h a).1 (by simp);simp at this
 | a::r,b::s,h1,h2,h=>by
   rw[List.pairwise_cons] at h1 h2;have hab:a=b:=by
    rcases List.mem_cons.1 ((h a).1 (by simp)) with e|e
    ·exact e
    ·rcases List.mem_cons.1 ((h b).2 (by simp)) with e'|e'
     ·exact e'.symm
     ·have:=h1.1 b e';have:=h2.1 a e;omega
   subst hab;rw[eq_of_rising h1.2 h2.2];intro m;constructor
   ·intro hm;rcases List.mem_cons.1 ((h m).1 (by simp[hm])) with e|e
    ·subst e;have:=h1.1 m hm;omega
    ·exact e
   ·intro hm;rcases List.mem_cons.1 ((h m).2 (by simp[hm])) with e|e
    ·subst e;have:=h2.1 m hm;omega
    ·exact e
theorem mem_insRev (l:List Mk) (x m:Mk):m∈ZW l x↔m=x∨m∈l:=by
 induction l with
 | nil=>simp[ZW]
 | cons y r ih=>unfold ZW;split<;>simp[ih];grind
theorem insRev_fall:∀ (l:List Mk) (x:Mk),l.Pairwise (fun a b=>b.o<a.o)->(∀ m∈l,m.o≠x.o)->(ZW l x).Pairwise (fun a b=>b.o<a.o)
 | [],x,_,_=>by simp[ZW]
 | y::r,x,h,hx=>by
   rw[List.pairwise_cons] at h;unfold ZW;split
   ·rename_i hlt;rw[List.pairwise_cons];refine⟨fun m hm=>?_,insRev_fall r x h.2 fun m hm=>hx m (by simp[hm])⟩;rcases (mem_insRev r x m).1 hm with rfl|hm
    ·exact hlt
    ·exact h.1 m hm
   ·rename_i hlt;have hne:=hx y (by simp);rw[List.pairwise_cons];refine⟨fun m hm=>?_,List.pairwise_cons.2 h⟩;rcases List.mem_cons.1 hm with rfl|hm
    ·omega
    ·have:=h.1 m hm;omega
theorem foldl_insRev:∀ (l acc:List Mk),acc.Pairwise (fun a b=>b.o<a.o)->(acc.map (·.o)++l.map (·.o)).Nodup->
 (l.foldl ZW acc).Pairwise (fun a b=>b.o<a.o)/\∀ m,m∈l.foldl ZW acc↔m∈acc∨m∈l
 | [],acc,h,_=>⟨h,by simp⟩
 | x::l,acc,h,hn=>by
   have hx:∀ m∈acc,m.o≠x.o:=fun m hm e=>by
    rw[List.nodup_append] at hn;exact hn.2.2 m.o (List.mem_map_of_mem hm) x.o (by simp) e
   have hn2:((ZW acc x).map (·.o)++l.map (·.o)).Nodup:=by
    rw[List.nodup_append] at hn ⊢;simp only[List.map_cons,List.nodup_cons] at hn;refine⟨?_,hn.2.1.2,?_⟩
    ·have:=insRev_fall acc x h hx;rw[List.Nodup,List.pairwise_map];exact this.imp fun hlt e=>by omega
    ·intro a ha b hb e;subst e;obtain⟨m,hm,rfl⟩:=List.mem_map.1 ha;rcases (mem_insRev acc x m).1 hm with rfl|hm
     ·exact hn.2.1.1 hb
     ·exact hn.2.2 m.o (List.mem_map_of_mem hm) m.o (by simp[hb]) rfl
   obtain⟨h1,h2⟩:=foldl_insRev l (ZW acc x) (insRev_fall acc x h hx) hn2;refine⟨h1,fun m=>?_⟩;rw[List.foldl_cons,h2,mem_insRev];simp only[List.mem_cons]
   grind
theorem sortM_rising {l:List Mk} (hn:(l.map (·.o)).Nodup):(jC l).Pairwise (fun a b=>a.o<b.o):=by
 unfold jC YY;rw[List.pairwise_reverse];exact (foldl_insRev l [] .nil (by simpa using hn)).1
theorem mem_sortM {l:List Mk} (hn:(l.map (·.o)).Nodup) (m:Mk):m∈jC l↔m∈l:=by
 unfold jC YY;rw[List.mem_reverse,(foldl_insRev l [] .nil (by simpa using hn)).2];simp
theorem sortM_of_perm {l d:List Mk} (hn:(l.map (·.o)).Nodup) (hp:d.Perm l) (hs:∀ i j (hi:i<d.length) (hj:j<d.length),i<j->¬ d[j].o<d[i].o):d=jC l:=by
 have hn':(d.map (·.o)).Nodup:=((hp.map (·.o)).nodup_iff).2 hn;refine eq_of_rising ?_ (sortM_rising hn) fun m=>by rw[mem_sortM hn,hp.mem_iff]
 rw[List.pairwise_iff_getElem];intro i j hi hj hij;have h1:=hs i j hi hj hij;have h2:d[i].o≠d[j].o:=by
  rw[List.Nodup,List.pairwise_map,List.pairwise_iff_getElem] at hn';exact hn' i j hi hj hij
 omega
def IsMerge (out l:List Mk):Prop:=(out.map (·.o)).Nodup/\∀ m,m∈out↔(∃ a∈l,a.o=m.o)/\m.w=l.any fun a=>a.o == m.o&&a.w
theorem IsMerge.add {out l:List Mk} (h:IsMerge out l) (x:Mk):IsMerge (qd out x) (l++[x]):=by
 obtain⟨hn,hm⟩:=h;unfold qd;split
 ·rename_i hf;rw[List.findIdx?_eq_none_iff] at hf;have hne:∀ a∈out,a.o≠x.o:=fun a ha e=>by have:=hf a ha;simp[e] at this
  have hl:∀ a∈l,a.o≠x.o:=fun a ha e=>by
   have:=(hm ⟨x.o,l.any fun b=>b.o == x.o&&b.w⟩).2 ⟨⟨a,ha,e⟩,rfl⟩;exact hne _ this rfl
  refine⟨?_,fun m=>?_⟩
  ·rw[List.map_append,List.nodup_append];refine⟨hn,by simp,fun a ha b hb e=>?_⟩;obtain⟨y,hy,rfl⟩:=List.mem_map.1 ha;simp at hb;exact hne y hy (e.trans hb)
  ·simp only[List.mem_append,hm,List.mem_singleton,List.any_append,List.any_cons,List.any_nil,Bool.or_false];constructor
   ·rintro (⟨⟨a,ha,e⟩,hw⟩|rfl)
    ·refine⟨⟨a,.inl ha,e⟩,?_⟩;have:(x.o == m.o)=false:=by
      have:=hl a ha;simp;omega
     simp[this,hw]
    ·refine⟨⟨m,.inr rfl,rfl⟩,?_⟩;have:(l.any fun a=>a.o == m.o&&a.w)=false:=by
      rw[List.any_eq_false];intro a ha;have:=hl a ha;simp[this]
     simp[this]
   ·rintro⟨⟨a,ha|rfl,e⟩,hw⟩
    ·left;refine⟨⟨a,ha,e⟩,?_⟩;have:(x.o == m.o)=false:=by
      have:=hl a ha;simp;omega
     simpa[this] using hw
    ·right;have:(l.any fun b=>b.o == m.o&&b.w)=false:=by
      rw[List.any_eq_false];intro b hb;have:=hl b hb;simp[<- e,this]
     rw[this] at hw;cases m;cases a;simp at e hw;simp[e,hw]
 ·rename_i i hf;obtain⟨hi,hp,-⟩:=List.findIdx?_eq_some_iff_getElem.1 hf;have hio:out[i].o=x.o:=by simpa using hp
  refine⟨?_,fun m=>?_⟩
  ·have:(out.modify i fun y=>⟨y.o,y.w||x.w⟩).map (·.o)=out.map (·.o):=by
    apply List.ext_getElem
    ·simp
    ·intro j h1 h2;simp only[List.getElem_map,List.getElem_modify];split<;>simp_all
   rw[this];exact hn
  ·have huniq:∀ j (hj:j<out.length),out[j].o=x.o->j=i:=fun j hj e=>by
    rw[List.Nodup,List.pairwise_map,List.pairwise_iff_getElem] at hn;rcases Nat.lt_trichotomy j i with h|h|h
    ·exact absurd (e.trans hio.symm) (hn j i hj hi h)
    ·exact h
    ·exact absurd (hio.trans e.symm) (hn i j hi hj h)
   have hmi:=(hm out[i]).1 (List.getElem_mem hi);have key:m∈(out.modify i fun y=>⟨y.o,y.w||x.w⟩)↔(m.o≠x.o/\m∈out)∨(m.o=x.o/\m.w=(out[i].w||x.w)):=by
    constructor
    ·intro h;obtain⟨j,hj,rfl⟩:=List.getElem_of_mem h;rw[List.getElem_modify];split
     ·rename_i e;subst e;right;exact⟨hio,rfl⟩
     ·rename_i e;left;refine⟨fun e'=>e (huniq j (by simpa using hj) e').symm,List.getElem_mem _⟩
    ·rintro (⟨h1,h2⟩|⟨h1,h2⟩)
     ·obtain⟨j,hj,rfl⟩:=List.getElem_of_mem h2;have hji:i≠j:=fun e=>h1 (by subst e;exact hio);have:(out.modify i fun y=>⟨y.o,y.w||x.w⟩)[j]? = some out[j]:=by
       rw[List.getElem?_eq_getElem (by simpa using hj),List.getElem_modify,if_neg hji]
      exact List.mem_of_getElem? this
     ·have:(out.modify i fun y=>⟨y.o,y.w||x.w⟩)[i]? = some m:=by
       rw[List.getElem?_eq_getElem (by simpa using hi),List.getElem_modify,if_pos rfl];cases m;simp at h1 h2;simp[h1,h2,hio]
      exact List.mem_of_getElem? this
   rw[key];simp only[List.mem_append,List.mem_singleton,List.any_append,List.any_cons,List.any_nil,Bool.or_false];by_cases e:m.o=x.o
   ·obtain⟨⟨a,ha,hao⟩,hw⟩:=hmi;have e2:(x.o == m.o)=true:=by simp[e]
    rw[hio] at hw;simp only[e,ne_eq,not_true_eq_false,false_and,true_and,false_or,beq_self_eq_true,Bool.true_and];rw[hw];refine⟨fun h=>⟨⟨a,.inl ha,by rw[hao,hio]⟩,h⟩,fun h=>h.2⟩
   ·have e2:(x.o == m.o)=false:=by simp;omega
    simp only[e2,Bool.false_and,Bool.or_false,ne_eq,e,not_false_eq_true,true_and,false_and,or_false];rw[hm];constructor
    ·rintro⟨⟨a,ha,h1⟩,h2⟩;exact⟨⟨a,.inl ha,h1⟩,h2⟩
    ·rintro⟨⟨a,ha|rfl,h1⟩,h2⟩
     ·exact⟨⟨a,ha,h1⟩,h2⟩
     ·exact absurd h1.symm e
theorem foldl_addMark:∀ (l out l0:List Mk),IsMerge out l0->IsMerge (l.foldl qd out) (l0++l)
 | [],out,l0,h=>by simpa using h
 | x::l,out,l0,h=>by
   have:=foldl_addMark l _ _ (h.add x);simpa using this
theorem mergeM_is (l:List Mk):IsMerge (Un l) l:=by
 have:=foldl_addMark l [] [] ⟨by simp,by simp⟩;simpa[Un] using this
theorem mergeM_nodup (l:List Mk):((Un l).map (·.o)).Nodup:=(mergeM_is l).1
theorem mem_newE (t:Int) (l:List Mk) (m:Mk):m∈(newE t l).m↔(∃ a∈l,a.o=m.o)/\m.w=l.any fun a=>a.o == m.o&&a.w:=by
 show m∈jC (Un l)↔_;rw[mem_sortM (mergeM_nodup l),(mergeM_is l).2]
theorem newE_rising (t:Int) (l:List Mk):(newE t l).m.Pairwise (fun a b=>a.o<b.o):=sortM_rising (mergeM_nodup l)
end Go.Awp.B
namespace Go.Proofs
open Go.Shelf
def Tryz.sortMarks_ren:Go.Shelf.Ren:=⟨fun|6=>53|15=>79|14=>78|28=>127|29=>128|20=>119|21=>120|22=>121|23=>122|24=>123|25=>124|26=>125|27=>126|46=>148|47=>149|48=>150|49=>151|50=>152|57=>172|n=>n,fun|22=>46|24=>49|25=>133|3=>3|39=>178|0=>0|53=>220|55=>61|4=>4|46=>214|45=>213|50=>186|5=>5|9=>9|66=>243|70=>247|76=>260|77=>261|n=>n,fun|n=>n⟩
theorem Tryz.sortMarks:Go.Proofs.SlLaysF0.n6 Tryz.prog Tryz.sortMarks_ren:={
 mixed:=by kernel_rfl
 f6:=⟨Tryz.f53.name,by decide,Tryz.func53.trans (congrArg some (by kernel_rfl))⟩
 f14:=⟨Tryz.f78.name,by decide,Tryz.func78.trans (congrArg some (by kernel_rfl))⟩
 f15:=Tryz.func79.trans (congrArg some (by kernel_rfl))
 f20:=⟨Tryz.f119.name,by decide,Tryz.func119.trans (congrArg some (by kernel_rfl))⟩
 f21:=⟨Tryz.f120.name,by decide,Tryz.func120.trans (congrArg some (by kernel_rfl))⟩
 f22:=⟨Tryz.f121.name,by decide,Tryz.func121.trans (congrArg some (by kernel_rfl))⟩
 f23:=⟨Tryz.f122.name,by decide,Tryz.func122.trans (congrArg some (by kernel_rfl))⟩
 f24:=⟨Tryz.f123.name,by decide,Tryz.func123.trans (congrArg some (by kernel_rfl))⟩
 f25:=⟨Tryz.f124.name,by decide,Tryz.func124.trans (congrArg some (by kernel_rfl))⟩
 f26:=⟨Tryz.f125.name,by decide,Tryz.func125.trans (congrArg some (by kernel_rfl))⟩
 f27:=⟨Tryz.f126.name,by decide,Tryz.func126.trans (congrArg some (by kernel_rfl))⟩
 f28:=Tryz.func127.trans (congrArg some (by kernel_rfl))
 f29:=Tryz.func128.trans (congrArg some (by kernel_rfl))
 f46:=⟨Tryz.f148.name,by decide,Tryz.func148.trans (congrArg some (by kernel_rfl))⟩
 f47:=Tryz.func149.trans (congrArg some (by kernel_rfl))
 f48:=Tryz.func150.trans (congrArg some (by kernel_rfl))
 f49:=⟨Tryz.f151.name,by decide,Tryz.func151.trans (congrArg some (by kernel_rfl))⟩
 f50:=⟨Tryz.f152.name,by decide,Tryz.func152.trans (congrArg some (by kernel_rfl))⟩
 f57:=⟨Tryz.f172.name,by decide,Tryz.func172.trans (congrArg some (by kernel_rfl))⟩
 t0:=Tryz.underlying0
 a0:=Tryz.isAgg0
 z0:=Tryz.sizeOf0
 v0:=Tryz.zeroValue0
 t3:=Tryz.underlying3
 a3:=Tryz.isAgg3
 z3:=Tryz.sizeOf3
 v3:=Tryz.zeroValue3
 t4:=Tryz.underlying4
 a4:=Tryz.isAgg4
 z4:=Tryz.sizeOf4
 v4:=Tryz.zeroValue4
 t5:=Tryz.underlying5
 a5:=Tryz.isAgg5
 z5:=Tryz.sizeOf5
 v5:=Tryz.zeroValue5
 t9:=Tryz.underlying9
 a9:=Tryz.isAgg9
 z9:=Tryz.sizeOf9
 v9:=Tryz.zeroValue9
 t22:=Tryz.underlying46
 a22:=Tryz.isAgg46
 z22:=Tryz.sizeOf46
 v22:=Tryz.zeroValue46
 t25:=Tryz.underlying133
 a25:=Tryz.isAgg133
 z25:=Tryz.sizeOf133
 v25:=Tryz.zeroValue133
 t39:=Tryz.underlying178
 a39:=Tryz.isAgg178
 z39:=Tryz.sizeOf178
 v39:=Tryz.zeroValue178
 t45:=Tryz.underlying213
 a45:=Tryz.isAgg213
 z45:=Tryz.sizeOf213
 v45:=Tryz.zeroValue213
 t46:=Tryz.underlying214
 a46:=Tryz.isAgg214
 z46:=Tryz.sizeOf214
 v46:=Tryz.zeroValue214
 t50:=Tryz.underlying186
 a50:=Tryz.isAgg186
 z50:=Tryz.sizeOf186
 v50:=Tryz.zeroValue186
 t53:=Tryz.underlying220
 a53:=Tryz.isAgg220
 z53:=Tryz.sizeOf220
 v53:=Tryz.zeroValue220
 t55:=Tryz.underlying61
 a55:=Tryz.isAgg61
 z55:=Tryz.sizeOf61
 v55:=Tryz.zeroValue61
 t66:=Tryz.underlying243
 a66:=Tryz.isAgg243
 z66:=Tryz.sizeOf243
 v66:=Tryz.zeroValue243
 t70:=Tryz.underlying247
 a70:=Tryz.isAgg247
 z70:=Tryz.sizeOf247
 v70:=Tryz.zeroValue247
 t76:=Tryz.underlying260
 a76:=Tryz.isAgg260
 z76:=Tryz.sizeOf260
 v76:=Tryz.zeroValue260
 t77:=Tryz.underlying261
 a77:=Tryz.isAgg261
 z77:=Tryz.sizeOf261
 v77:=Tryz.zeroValue261 }
end Go.Proofs
namespace Go.Awp.R3
open Go.Awp.R1 Go Go.Awp Go.Proofs Go.Awp.B Go.RowKit Go.Sort
def encMk (m:Mk):List Value:=[.int .i64 m.o,.bool m.w]
def cfM (a b:Mk):Int:=Lib.compareInt a.o b.o
theorem ltM (x y:Mk):ltOf cfM x y=decide (x.o<y.o):=by
 unfold ltOf cfM Lib.compareInt;by_cases h1:x.o<y.o
 ·simp[h1]
 ·by_cases h2:y.o<x.o<;>simp[h1,h2]
theorem swoM:SWO (ltOf cfM) where
 irrefl x:=by rw[ltM];simp
 trans x y z h1 h2:=by rw[ltM] at *;simp at *;omega
 ntrans x y z h1 h2:=by rw[ltM] at *;simp at *;omega
theorem cmpM_call (x y:Mk) (W:World):Calls Tryz.prog 54 #[.agg #[.int .i64 x.o,.bool x.w],.agg #[.int .i64 y.o,.bool y.w]] W fun e w'=>e = .returned (.int .i64 (cfM x y))/\∃ q os',w' = grow (W.drewN q) os':=by
 have hcon:=fun W'=>Tryz.cmp_Compare_int x.o y.o W';unfold cfM;generalize Lib.compareInt x.o y.o=r at hcon ⊢
 go_enter Tryz.func54,Tryz.ntmps54
 go_wp2_with (go_at_call 55;refine (hcon _).mono ?_;rintro e w' ⟨rfl,rfl⟩)
 go_ret
 exact⟨rfl,0,_,by rw[alloc_eq_grow,alloc_eq_grow,grow_grow];rfl⟩
theorem xs_of {E:Amb}:∀ {es:List Mk} {xs:List Value},RepL E ((es.map encM).flatMap V.cells) xs->xs=es.flatMap encMk
 | [],xs,h=>by cases h;rfl
 | m::es,xs,h=>by
   simp only[List.map_cons,List.flatMap_cons,encM,V.cells,List.cons_append,List.nil_append] at h;cases h with|cons h1 h=>cases h with|cons h2 h=>
   cases h1;cases h2;simp[encMk,xs_of h]
theorem of_xs {E:Amb}:∀ (es:List Mk),RepL E ((es.map encM).flatMap V.cells) (es.flatMap encMk)
 | []=>.nil
 | m::es=>.cons (.int _ _) (.cons (.bool _) (of_xs es))
theorem flat_get (es:List Mk):∀ t,t<es.length*2->(es.flatMap encMk)[t]? = some (encMk es[t / 2]!)[t % 2]!:=by
 induction es with
 | nil=>intro t h;simp at h
 | cons m es ih=>
   intro t h
   match t with
   | 0=>simp[encMk]
   | 1=>simp[encMk]
   | t+2=>
     have:=ih t (by simp at h;omega);rw[show (t+2) / 2=t / 2+1 by omega,show (t+2) % 2=t % 2 by omega];simp[encMk] at this ⊢;rw[this]
theorem flat_toList (es:List Mk):(flatK encMk 2 es.toArray).toList=es.flatMap encMk:=by
 apply List.ext_getElem?;intro t;by_cases h:t<es.length*2
 ·rw[flat_get es t h];have h2:t<(flatK encMk 2 es.toArray).size:=by simp;exact h
  have:=get_flatK encMk 2 es.toArray t (by simpa using h);rw[getElem!_pos _ t h2] at this;rw[Array.getElem?_toList,Array.getElem?_eq_getElem h2,this];simp
 ·rw[List.getElem?_eq_none (by simp;omega),List.getElem?_eq_none];have:(es.flatMap encMk).length=es.length*2:=by
   clear h
   induction es with
   | nil=>rfl
   | cons m es ih=>simp[encMk] at ih ⊢;omega
  omega
theorem repl_two {E:Amb} {a b:V} {cs:List Value} (h:RepL E [a,b] cs):∃ c1 c2,cs=[c1,c2]/\Rep E a c1/\Rep E b c2:=by
 cases h with
 | cons h1 h=>
   cases h with
   | cons h2 h=>cases h;exact⟨_,_,rfl,h1,h2⟩
theorem sw_heap (w:World) (n g b:Nat) (f:Array Value->Array Value) (os:Array Obj) (hb:b<w.heap.size):(grow (mapBlock (Sort.ahead w n) g f) os).heap[b]? = if g=b then (w.heap[b]?).map (onCells f) else w.heap[b]?:=by
 show ((w.heap.modify g (onCells f))++os)[b]? = _;rw[Array.getElem?_append_left (by simpa using hb),Array.getElem?_modify]
theorem put_take (F:Array Value) (cur:Array Value) (h:F.size<=cur.size):(putCells id 0 F cur).toList.take F.size=F.toList:=by
 apply List.ext_getElem?;intro i;rw[List.getElem?_take];by_cases hi:i<F.size
 ·have:i<cur.size:=by omega
  simp[putCells,hi,this]
 ·simp[hi]
theorem SortFunc_all (id:Id) (ver:Nat) (es:List Mk) (hn:(es.map (·.o)).Nodup) (hl:es.length<4611686018427387904):AFn TC 53 [.vec id ver,.func (.func 54) [] []] [(id,.vec 49 2 (es.map encM) ver true)] (Sorts id ver es):=by
 by_cases h12:es.length<=12
 ·exact QJw id ver es h12
 refine⟨(QJw id ver [] (by simp)).1,fun E cargs L hs hg ha hL=>?_⟩;obtain⟨hv,xs,eι,ho,hr,hw,h0,hI⟩:=hs.blk id _ (List.mem_singleton.2 rfl);obtain⟨c1,c2,rfl,ha1,ha2⟩:=repl_two ha;obtain⟨hv',ver',h,hle,hc⟩:∃ hv' ver',E.ι id = .vec hv' ver'/\ver<=ver'/\(ver=ver'->hv' = c1):=by
  cases ha1 with|vec h hle hc=>exact⟨_,_,h,hle,hc⟩
 rw[eι] at h;injection h with e1 e2;subst e1;subst e2;have e3:=hc rfl;subst e3;obtain rfl:c2 = .func (.func 54) #[] #[]:=by
  cases ha2 with|func h1 h2=>cases h1;cases h2;rfl
 rw[List.length_map] at ho;obtain⟨hxl,ho⟩:=ho;rcases ho with⟨a,-,hz⟩|⟨g,cap,cur,hcap,rfl,hgb,hnc,hcm,hcs,htk⟩
 ·omega
 have hxs:=xs_of hr;subst hxs;have hgl:g<E.w.heap.size:=(Array.getElem?_eq_some_iff.1 hgb).1;have hFl:(flatK encMk 2 es.toArray).toList=es.flatMap encMk:=flat_toList es;have hsz:es.length*2<=cur.size:=by omega
 have hH:HoldsK encMk 2 E.w g 0 es.toArray:=by
  intro j hj;have hj':j<es.length*2:=by simpa using hj
  have hcj:cur[j]? = some (flatK encMk 2 es.toArray)[j]!:=by
   have e1:(cur.toList.take (es.length*2))[j]? = cur[j]?:=by rw[List.getElem?_take,if_pos hj'];simp
   rw[<- e1,htk,<- hFl,Array.getElem?_toList,Array.getElem?_eq_getElem hj,getElem!_pos (flatK encMk 2 es.toArray) j hj]
  have hj2:j<cur.size:=by omega
  constructor
  ·simp[World.cell?,hgb,hcj]
  ·simp[World.frozen?,hgb]
 have eg:∀ args w,(callFunc 54 args).run Tryz.prog w = .ok (.enter 54 args) w:=enters_of Tryz.func54 (by kernel_rfl) rfl;have hcon:=AnyQ.slices_SortFunc Tryz.sortMarks 2 (by intro w;kernel_rfl) (by intro w;kernel_rfl) encMk (fun _=>rfl) (fun x v hv=>by simp[encMk] at hv;rcases hv with rfl|rfl<;>rfl) cfM swoM 54 #[] g 0 cap es.toArray E.w eg (fun _ _ _ _ x y=>cmpM_call x y _) hH hgl (by simpa using hl);change Calls Tryz.prog 53 _ _ _ at hcon;simp only[List.size_toArray] at hcon;refine Calls.mono (P:=Tryz.prog) hcon ?_;rintro e w' ⟨rfl,d',n,os,hp,hsd,rfl⟩;obtain⟨hps,-,hpp⟩:=hp;have hds:d'.size=es.length:=by simpa using hps
 have hd:d'.toList=jC es:=by
  refine sortM_of_perm hn ?_ ?_
  ·have:=hpp;rw[<- hds] at this;have h2:List.take es.length d'.toList=d'.toList:=List.take_of_length_le (by simp;omega);simpa[hds,h2] using this
  ·intro i j hi hj hij;have:=hsd i j (Nat.zero_le _) hij (by simpa[hds] using hj);rw[ltM] at this;have hi':i<d'.size:=by simpa using hi
   have hj':j<d'.size:=by simpa using hj
   rw[getElem!_pos d' i hi',getElem!_pos d' j hj'] at this;simpa using this
 have hd2:d' = (jC es).toArray:=by rw[<- hd]
 subst hd2;have hnI:∀ o,¬ E.I g o:=fun o hi=>by have:=(hI g (by simp[hblk];omega) o hi).1;simp at this
 have hw1:∀ b,b<E.w.heap.size->(sortWorldK encMk 2 E.w g 0 n (jC es).toArray os).heap[b]? = if g=b then (E.w.heap[b]?).map (onCells (putCells _root_.id 0 (flatK encMk 2 (jC es).toArray))) else E.w.heap[b]?:=fun b hb=>sw_heap E.w n g b _ os hb
 let E':Amb:={ E with w:=sortWorldK encMk 2 E.w g 0 n (jC es).toArray os }
 have hkeep:∀ b,b<E.w.heap.size->b≠g->E'.w.heap[b]? = E.w.heap[b]?:=fun b hb hne=>by
  show (sortWorldK encMk 2 E.w g 0 n (jC es).toArray os).heap[b]? = _;rw[hw1 b hb,if_neg (Ne.symm hne)]
 have hsize:E.w.heap.size<=E'.w.heap.size:=by
  show E.w.heap.size<=(sortWorldK encMk 2 E.w g 0 n (jC es).toArray os).heap.size;simp[sortWorldK,grow,putRowK,putRow,mapBlock,Sort.ahead]
 have hle:E.Le E':=⟨fun _ _ h=>h,fun b o hi=>World.cell?_of_block (hkeep b (hs.imm b o hi) fun e=>hnI o (e▸hi)),fun _=>Loc.Le.refl _,fun b es c hi h=>(hkeep b (hs.imm b 0 hi) fun e=>hnI 0 (e▸hi)).trans h⟩
 have hlen:(jC es).length=es.length:=sortM_length es;have hblk:Wd E' id (.vec 49 2 ((jC es).map encM) ver true):=by
  refine⟨_,(jC es).flatMap encMk,eι,⟨?_,.inr ⟨g,cap,putCells _root_.id 0 (flatK encMk 2 (jC es).toArray) cur,hcap,?_,?_,?_,hcm,?_,?_⟩⟩,of_xs _,?_,h0,fun b hb o i=>absurd i (by
   have:b=g:=by simp[hblk] at hb;omega
   subst this;exact hnI o)⟩
  ·rw[<- flat_toList];simp
  ·simp[hlen]
  ·show (sortWorldK encMk 2 E.w g 0 n (jC es).toArray os).heap[g]? = _;rw[hw1 g hgl,if_pos rfl,hgb]<;>rfl
  ·simp[hlen];exact hnc
  ·simp[putCells,hcs]
  ·rw[<- flat_toList];have:=put_take (flatK encMk 2 (jC es).toArray) cur (by simp[hlen];omega);simpa[hlen] using this
  ·intro e he;obtain⟨m,-,rfl⟩:=List.mem_map.1 he;exact⟨rfl,by simp[encM,V.ok,V.scalar]⟩
 refine⟨E',_,[(id,.vec 49 2 ((jC es).map encM) ver true)],rfl,⟨rfl,rfl⟩,.ret (.tup .nil),⟨?_,by simp[Qa.keys],by simp[Qa.keys],fun b o hi=>Nat.lt_of_lt_of_le (hs.imm b o hi) hsize,hs.fin⟩,⟨hle,?_,fun _ _ h=>.inl h,fun _ _ _=>rfl,fun _ h=>.inl h,?_,rfl,rfl,rfl,hsize⟩,fun _ _ h=>h⟩
 ·intro i b hm;obtain⟨rfl,rfl⟩:=Prod.mk.inj (List.mem_singleton.1 hm);exact hblk
 ·intro b hb hno;refine hkeep b hb fun e=>hno ⟨id,by simp[Qa.keys],?_⟩;show (E.ι id).block=some b;rw[eι,e];simp[Loc.block,Awp.hblk];omega
 ·rintro b ⟨i,hi,hb⟩;exact .inr ⟨i,hi,hb⟩
theorem New_all (t:Int) (l:List Mk) (hl:l.length<=1000000):Ql TC 29 [.int .i64 t,.slice (l.map encM)] (encE (newE t l)):=by
 refine ent Tryz.func29 fun L K hL hR hN hP=>?_;simp;refine Qw (WM (t:=5) (el:=49) (sz:=2) (by simp) (by decide)) ?_;refine QB (α:=Nat × List Mk) (fun x=>x.1<=l.length/\x.2=Un (l.take x.1)/\x.2.length<=x.1)
  (fun x=>[(0,.int .i64 t),(4,.ptr (L,0) 0),(5,.vec (L,1) x.2.length),(9,.slice (l.map encM)),(10,.int .i64 l.length),(11,.int .i64 x.1)])
  (fun x=>[((L,1),.vec 49 2 (x.2.map encM) x.2.length true),((L,0),.cells 88 [.int .i64 0,.snil])]) (fun x=>l.length - x.1) (0,[]) (by simp[Un]) twk ?_
 rintro⟨k,out⟩ L1 K1 ⟨hk,hout,hlen⟩ hL1 hk1 hnext hex hrt - -;simp at hk hout hlen hk1 hL1;simp;refine Qv.mk (fun h=>?_) (fun h=>?_)
 ·have hlt:k<l.length:=by simpa using h
  have hx:l[k]? = some l[k]:=List.getElem?_eq_getElem hlt;have hms:=QYz hlt;rw[<- hout] at hms;generalize l[k]=m at hx hms;simp[hx,encM];refine Qe.borrow (Qgz out (fun x=>x.o == m.o) 52 [.rptr (encM m)] (by omega) fun x _=>New1_ok m x) (.cons (.vec (t:=49) (s:=2) (es:=out.map encM) (wr:=true) (by simp[Ne.symm hk1]) (Qn _)) (.cons (.func .nil (.cons (.cells (t:=49) (cs:=[.int .i64 m.o,.bool m.w]) (by simp) (Qn _)) .nil)) .nil)) rfl (by decide) ?_;rcases hfi:out.findIdx? (fun x=>x.o == m.o) with _|i
  ·have hix:ix out (fun x=>x.o == m.o) = -1:=by unfold ix;rw[hfi]
   have hadd:qd out m=out++[m]:=by unfold qd;rw[hfi]
   have c1:out.length<=9223372036854775806:=by omega
   have c2:(out.length+1)*16<=140737488355328:=by omega
   simp[hix,Ne.symm hk1,c1,c2,wr1 k (by omega)];refine hnext _ (k+1,out++[m]) ⟨by simp;omega,by rw[hms,hadd],by simp;omega⟩ (by simp;omega) (Qb (by simp) (by simp[encM]) (by simp))
  ·obtain⟨hi,hp,-⟩:=List.findIdx?_eq_some_iff_getElem.1 hfi;have hix:ix out (fun x=>x.o == m.o)=i:=by unfold ix;rw[hfi]
   have hadd:qd out m=out.modify i fun x=>⟨x.o,x.w||m.w⟩:=by unfold qd;rw[hfi]
   have hn:¬ (i:Int)<0:=by omega
   rcases hw:out[i].w<;>simp[hix,Ne.symm hk1,hn,hi,encM,hw,wr1 k (by omega)]
   all_goals
    refine hnext _ (k+1,out.modify i fun x=>⟨x.o,x.w||m.w⟩) ⟨by simp;omega,by rw[hms,hadd],by simp;omega⟩ (by simp;omega) (Qb (by simp) ?_ (by simp));simp[qC encM _ hi,encM,hw]
 ·refine hex _ _ ?_;have hkn:¬ k<l.length:=by simpa using h
  have hkl:k=l.length:=by omega
  subst hkl;rw[List.take_length] at hout;simp;refine Qe.gen (SortFunc_all (L,1) out.length out (by rw[hout];exact mergeM_nodup _) (by omega)) (by simp) (by simp) (by decide) rfl ?_ ?_
  ·rintro L' v σ' h1 h2 ⟨e,rfl⟩;cases e;simp[Qa.less];subst hout;exact hR _ (.pure (v:=.agg [.int .i64 t,.vec (L,1) (Un l).length]) (by simp[Qf,Qj]) (.agg (.cons (.refl _) (.cons (.vec (t:=49) (s:=2) (es:=(jC (Un l)).map encM) (wr:=true) (by simp) (Qn _)) .nil))))
  ·rintro L' v σ' h1 h2 ⟨e,rfl⟩;cases e
end Go.Awp.R3
