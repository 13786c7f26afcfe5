/- A slice of structs among the arguments, opened to its cells. -/
import Derived.Deep.Slices
import Derived.Deep.Fields
import Derived.ChangeSame
import Derived.SizedLaws
import Derived.Test.YtdebjkiilnhgpaaGreatDoorCTB
import Derived.Lib.SmallJoins
import Derived.Test.YtdebjkiilnhgpaaGreatDoorCTI
import Derived.Test.YtdebjkiilnhgpaaGreatDoorCTU
set_option maxRecDepth 100000
namespace Go.Proofs.YtdebjkiilnhgpaaGreatDoor
section
open Go.RowKit Go.ChangeShapes Go.WideShapes Go.Deep
section
variable {H:Type} {enc:TypeId × Value→H} {P:Program} {w:World} {base:Nat} {spare:Nat→Bool} {held:Bool}
theorem open_slice_fields {t e:TypeId} {fs:Array Field} {fuel:Nat} {cs:List Value} {x:DataW H × List MemPlace} (ht:P.underlying t=some (.slice e)) (he:P.underlying e=some (.struct fs))
  (hone:oneCellFields P fs=true) (hC:P.cellsOf e=fs.size) (h:DataW.trod enc P w base spare held fuel t cs=some x) :
  (cs=[.slice none 0 0]∧x=(.nil,[])) ∨
  ∃ (a:Addr) (len cap m:Nat) (D:Nat→DataW H) (Pl:Nat→List MemPlace),cs=[.slice (some a) len cap]∧base≤a.block∧len≤cap∧cap≤maxLen∧m=(if spare a.block then cap else len) ∧
   x=(.slice ((List.range len).map D) ((List.range (m-len)).map fun j=>D (len+j)),MemPlace.row a (m*fs.size)++(List.range m).flatMap Pl) ∧
   ∀ i,i<m→∃ (ys:List (DataW H × List MemPlace)) (n:Nat),D i=.agg (ys.map (·.1))∧Pl i=ys.flatMap (·.2)∧ys.length=fs.size ∧
    ∀ (j:Nat) (f:Field),fs[j]?=some f→∃ (v:Value) (y:DataW H × List MemPlace),w.cell? (a.add (i*fs.size+j))=some v∧ys[j]?=some y∧DataW.trod enc P w base spare held n f.type [v]=some y:=by
 rcases open_slice ht h with h0 | ⟨a,len,cap,m,n,D,Pl,hcs,hb,hl,hm,hmm,hx,hi⟩
 ·exact .inl h0
 ·refine .inr ⟨a,len,cap,m,D,Pl,hcs,hb,hl,hm,hmm,by rw [hC] at hx;exact hx,fun i him=>?_⟩
  obtain ⟨cs',hc,ht'⟩:=hi i him;rw [hC] at hc;obtain ⟨ys,n',hn',hy,hlen,hyl,hf⟩:=DataW.trod_struct he ht';obtain ⟨_,hcl,hat⟩:=World.cells?_some hc;simp only [Prod.mk.injEq] at hy;refine ⟨ys,n',hy.1,hy.2,hyl,fun j f hj=>?_⟩
  obtain ⟨ho,hk⟩:=hone_of hone j f hj;have hjl:j<fs.size:=(Array.getElem?_eq_some_iff.1 hj).1;have hcell:=hat j hjl;have hv:cs'[j]?=some (cs'[j]'(by omega)):=List.getElem?_eq_getElem (by omega)
  have h1:=hf j f hj;rw [ho,hk] at h1;have hone':(cs'.drop j).take 1=[cs'[j]'(by omega)]:=by
   rw [List.drop_eq_getElem_cons (by omega)]
   rfl
  rw [hone'] at h1;have hys:ys[j]?=some (ys[j]'(by omega)):=List.getElem?_eq_getElem (by omega)
  refine ⟨_,_,?_,hys,h1.trans hys⟩;rw [← Go.Deep.add_add,hcell,hv]
end
section
variable {H:Type} {enc:TypeId × Value→H} {P:Program} {W:World}
end
end
section
open Go.RowKit Go.ChangeShapes Go.WideShapes Go.Deep Go.Joins
section
variable {H:Type} {enc:TypeId × Value→H} {P:Program} {W:World}
theorem list_ofm {α:Type} (n:Nat) {R:Nat→α→Prop} (h:∀ i,i<n→∃ x,R i x):∃ l:List α,l.length=n∧∀ i (hi:i<l.length),R i l[i]:=by
 induction n with
 | zero=>exact ⟨[],rfl,fun i hi=>by simp at hi⟩
 | succ n ih =>
  obtain ⟨l,hl,hr⟩:=ih (fun i hi=>h i (by omega))
  obtain ⟨x,hx⟩:=h n (by omega)
  refine ⟨l++[x],by simp [hl],fun i hi=>?_⟩
  rcases Nat.lt_or_ge i l.length with h' | h'
  ·rw [List.getElem_append_left h'];exact hr i h'
  ·have:i=n:=by simp at hi;omega
   subst this;rw [List.getElem_append_right (by omega)]
   simpa [hl] using hx
theorem weightsAll_memm {e:TypeId}:∀ {l:List (DataW H)} {d:DataW H} {n:Nat},d∈l→n∈d.weights P e→n∈DataW.weightsAll P e l
 | x :: r,d,n,hd,hn=>by
  simp only [DataW.weightsAll,List.mem_append]
  rcases List.mem_cons.1 hd with rfl | hd
  ·exact .inl hn
  ·exact .inr (weightsAll_memm hd hn)
theorem wf_u16m {x:Int} (h:(Lit.int .u16 x).wf=true):0≤x∧x<65536:=by
 simp [Lit.wf,IntKind.min,IntKind.max,IntKind.signed,IntKind.bits] at h;omega
abbrev ArgW (a:ArgI):Prop:=(0≤a.1∧a.1<256)∧(0≤a.2.1∧a.2.1<4294967296)∧a.2.2.size≤140737488351232
theorem args_of_trod {t e:TypeId} {f0 f1 f2:Field} {fuel:Nat} {v:Value} {y:DataW H × List MemPlace} (ht:P.underlying t=some (.slice e)) (he:P.underlying e=some (.struct #[f0,f1,f2]))
  (hf0:P.underlying f0.type=some (.int .u8)) (hf1:P.underlying f1.type=some (.int .u32)) (hf2:P.underlying f2.type=some .string) (hone:oneCellFields P #[f0,f1,f2]=true) (hC:P.cellsOf e=3) (hby:P.bytesOf e=24)
  (h:DataW.trod enc P W 0 (fun _=>true) true fuel t [v]=some y) (hlt:∀ x∈y.2,x.block<W.heap.size) (hsz:∀ n∈y.1.weights P t,n≤reachBytes) :
  ∃ (A:Option Addr) (n c:Nat) (l:List ArgI),v=.slice A n c∧l.length=n∧n≤c∧c*24≤140737488351232∧Reads W W.heap.size 3 A n (Acells l)∧∀ a∈l,ArgW a:=by
 rcases open_slice_fields ht he hone hC h with ⟨hcs,hx⟩ | ⟨a,n,c,m,D,Pl,hcs,_,hl,hm,hmm,hx,hi⟩
 ·simp only [List.cons.injEq,and_true] at hcs;exact ⟨none,0,0,[],hcs,rfl,Nat.le_refl _,by omega,Reads.none_,by simp⟩
 ·simp only [List.cons.injEq,and_true] at hcs;subst hcs;subst hx;simp only [if_true] at hmm;subst hmm;have hcap:=hsz _ (by simp only [DataW.weights,ht];exact List.mem_cons_self ..)
  simp only [List.length_map,List.length_range,hby,reachBytes] at hcap;rw [show n+(m-n)=m from by omega] at hcap
  obtain ⟨l,hll,hc⟩:=list_ofm (α:=ArgI) n (R:=fun i x=>W.cell? (a.add (i*3))=some (.int .u8 x.1)∧W.cell? (a.add (i*3+1))=some (.int .u32 x.2.1)∧W.cell? (a.add (i*3+2))=some (.string x.2.2)∧ArgW x) (by
   intro i him;obtain ⟨ys,n',hD,hPl,hyl,hfl⟩:=hi i (by omega)
   obtain ⟨v0,y0,hc0,hy0,ht0⟩:=hfl 0 f0 rfl;obtain ⟨v1,y1,hc1,hy1,ht1⟩:=hfl 1 f1 rfl;obtain ⟨v2,y2,hc2,hy2,ht2⟩:=hfl 2 f2 rfl;obtain ⟨x0,hx0,_,hw0⟩:=DataW.trod_int hf0 ht0;obtain ⟨x1,hx1,_,hw1⟩:=DataW.trod_int hf1 ht1;obtain ⟨s,hx2,hyy,_⟩:=DataW.trod_string hf2 ht2;simp only [List.cons.injEq,and_true] at hx0 hx1 hx2;subst hx0 hx1 hx2;have hss:s.data.toList.length≤reachBytes:=hsz _ (by
    simp only [DataW.weights,ht];refine List.mem_cons_of_mem _ (List.mem_append_left _ (weightsAll_memm (d:=D i) (List.mem_map_of_mem (List.mem_range.2 him)) ?_));rw [hD];simp only [DataW.weights,he];exact DataW.weights_mem_each (j:=2) (t:=f2.type) (d:=y2.1) (by simp) (by rw [List.getElem?_map,hy2];rfl) _ (by rw [hyy];simp [DataW.weights]))
   exact ⟨(x0,x1,s),by simpa using hc0,by simpa using hc1,by simpa using hc2,wf_u8 hw0,wf_u32 hw1,by simpa [reachBytes] using hss⟩)
  refine ⟨some a,n,m,l,rfl,hll,hl,hcap,⟨by rw [Acells_length,hll],fun hn=>⟨a,rfl,?_,fun j u hu=>?_⟩⟩,fun x hx=>?_⟩
  ·exact hlt (.cell a.block a.off) (List.mem_append_left _ (MemPlace.mem_row.2 ⟨0,by simp;omega,by simp⟩))
  ·have hj:j<l.length*3:=by
    have:=(List.getElem?_eq_some_iff.1 hu).1;rwa [Acells_length] at this
   obtain ⟨k,r,hr,rfl⟩:∃ k r,r<3∧j=k*3+r:=⟨j / 3,j % 3,Nat.mod_lt _ (by omega),by omega⟩
   have hk:k<l.length:=by omega
   obtain ⟨h0,h1,h2⟩:=Acells_at hk;rw [ag_of hk] at h0 h1 h2;have:=hc k hk
   match r,hr with
   | 0,_=>rw [Nat.add_zero] at hu ⊢;rw [h0] at hu;cases hu;exact this.1
   | 1,_=>rw [h1] at hu;cases hu;exact this.2.1
   | 2,_=>rw [h2] at hu;cases hu;exact this.2.2.1
  ·obtain ⟨i,hin,e⟩:=List.getElem_of_mem hx;have:=hc i hin;rw [e] at this;exact this.2.2.2
abbrev InstN (x:InstA):Prop:=(∀ a∈x.1.2.2.2,0≤a.2.1∧a.2.1<4294967296)∧(0≤x.1.1∧x.1.1<65536)∧(0≤x.1.2.1∧x.1.2.1<4294967296)∧(0≤x.1.2.2.1∧x.1.2.2.1<4294967296)
theorem insts_of_trod {t e ta ea:TypeId} {f0 f1 f2 f3 g0 g1 g2:Field} {fuel:Nat} {v:Value} {y:DataW H × List MemPlace} (ht:P.underlying t=some (.slice e)) (he:P.underlying e=some (.struct #[f0,f1,f2,f3]))
  (hf0:P.underlying f0.type=some (.int .u16)) (hf1:P.underlying f1.type=some (.int .u32)) (hf2:P.underlying f2.type=some (.int .u32)) (hf3:f3.type=ta) (hone:oneCellFields P #[f0,f1,f2,f3]=true) (hC:P.cellsOf e=4) (hby:P.bytesOf e=40)
  (hta:P.underlying ta=some (.slice ea)) (hea:P.underlying ea=some (.struct #[g0,g1,g2])) (hg0:P.underlying g0.type=some (.int .u8)) (hg1:P.underlying g1.type=some (.int .u32)) (hg2:P.underlying g2.type=some .string) (honea:oneCellFields P #[g0,g1,g2]=true) (hCa:P.cellsOf ea=3) (hbya:P.bytesOf ea=24)
  (h:DataW.trod enc P W 0 (fun _=>true) true fuel t [v]=some y) (hlt:∀ x∈y.2,x.block<W.heap.size) (hsz:∀ n∈y.1.weights P t,n≤reachBytes) :
  ∃ (A:Option Addr) (n c:Nat) (l:List InstA),v=.slice A n c∧n≤c∧n≤3600000000000∧ModS W W.heap.size A n l∧∀ x∈l,InstN x:=by
 rcases open_slice_fields ht he hone hC h with ⟨hcs,hx⟩ | ⟨a,n,c,m,D,Pl,hcs,_,hl,hm,hmm,hx,hi⟩
 ·simp only [List.cons.injEq,and_true] at hcs;exact ⟨none,0,0,[],hcs,Nat.le_refl _,by omega,⟨by omega,Reads.none_,by simp⟩,by simp⟩
 ·simp only [List.cons.injEq,and_true] at hcs;subst hcs;subst hx;simp only [if_true] at hmm;subst hmm;have hcap:=hsz _ (by simp only [DataW.weights,ht];exact List.mem_cons_self ..)
  simp only [List.length_map,List.length_range,hby,reachBytes] at hcap;rw [show n+(m-n)=m from by omega] at hcap
  obtain ⟨l,hll,hc⟩:=list_ofm (α:=InstA) n (R:=fun i x=>W.cell? (a.add (i*4))=some (.int .u16 x.1.1)∧W.cell? (a.add (i*4+1))=some (.int .u32 x.1.2.1)∧W.cell? (a.add (i*4+2))=some (.int .u32 x.1.2.2.1)∧W.cell? (a.add (i*4+3))=some (.slice x.2.1 x.2.2.1 x.2.2.2)∧InstOk W W.heap.size x∧InstN x) (by
   intro i him;obtain ⟨ys,n',hD,hPl,hyl,hfl⟩:=hi i (by omega)
   obtain ⟨v0,y0,hc0,hy0,ht0⟩:=hfl 0 f0 rfl;obtain ⟨v1,y1,hc1,hy1,ht1⟩:=hfl 1 f1 rfl;obtain ⟨v2,y2,hc2,hy2,ht2⟩:=hfl 2 f2 rfl;obtain ⟨v3,y3,hc3,hy3,ht3⟩:=hfl 3 f3 rfl;obtain ⟨x0,hx0,_,hw0⟩:=DataW.trod_int hf0 ht0;obtain ⟨x1,hx1,_,hw1⟩:=DataW.trod_int hf1 ht1;obtain ⟨x2,hx2,_,hw2⟩:=DataW.trod_int hf2 ht2;simp only [List.cons.injEq,and_true] at hx0 hx1 hx2;subst hx0 hx1 hx2;have hm3:y3∈ys:=List.mem_of_getElem? hy3;rw [hf3] at ht3;obtain ⟨A',n1,c1,la,rfl,hal,hnc,hcb,hr,hA⟩:=args_of_trod hta hea hg0 hg1 hg2 honea hCa hbya ht3 (fun x hx=>hlt x (List.mem_append_right _ (List.mem_flatMap.2 ⟨i,List.mem_range.2 (by omega),by rw [hPl];exact List.mem_flatMap.2 ⟨y3,hm3,hx⟩⟩)))
    (fun q hq=>hsz q (by
     simp only [DataW.weights,ht];refine List.mem_cons_of_mem _ (List.mem_append_left _ (weightsAll_memm (d:=D i) (List.mem_map_of_mem (List.mem_range.2 him)) ?_));rw [hD];simp only [DataW.weights,he];exact DataW.weights_mem_each (j:=3) (t:=ta) (d:=y3.1) (by simp [hf3]) (by rw [List.getElem?_map,hy3];rfl) q hq))
   refine ⟨((x0,x1,x2,la),A',n1,c1),by simpa using hc0,by simpa using hc1,by simpa using hc2,by simpa using hc3,⟨hr,by show n1≤_;omega,fun q hq=>?_,fun q hq=>(hA q hq).2.2⟩,fun q hq=>(hA q hq).2.1,wf_u16m hw0,wf_u32 hw1,wf_u32 hw2⟩
   unfold kinds at hq;obtain ⟨q',hq',rfl⟩:=List.mem_map.1 hq;exact (hA q' hq').1)
  refine ⟨some a,n,m,l,rfl,hl,by omega,⟨by omega,⟨by rw [Icells_length,hll],fun hn=>⟨a,rfl,?_,fun j u hu=>?_⟩⟩,fun x hx=>?_⟩,fun x hx=>?_⟩
  ·exact hlt (.cell a.block a.off) (List.mem_append_left _ (MemPlace.mem_row.2 ⟨0,by simp;omega,by simp⟩))
  ·have hj:j<l.length*4:=by
    have:=(List.getElem?_eq_some_iff.1 hu).1;rwa [Icells_length] at this
   obtain ⟨k,r,hr,rfl⟩:∃ k r,r<4∧j=k*4+r:=⟨j / 4,j % 4,Nat.mod_lt _ (by omega),by omega⟩
   have hk:k<l.length:=by omega
   obtain ⟨h0,h1,h2,h3⟩:=Icells_at hk;rw [ig_of hk] at h0 h1 h2 h3;have:=hc k hk
   match r,hr with
   | 0,_=>rw [Nat.add_zero] at hu ⊢;rw [h0] at hu;cases hu;exact this.1
   | 1,_=>rw [h1] at hu;cases hu;exact this.2.1
   | 2,_=>rw [h2] at hu;cases hu;exact this.2.2.1
   | 3,_=>rw [h3] at hu;cases hu;exact this.2.2.2.1
  ·obtain ⟨i,hin,e⟩:=List.getElem_of_mem hx;have:=hc i hin;rw [e] at this;exact this.2.2.2.2.1
  ·obtain ⟨i,hin,e⟩:=List.getElem_of_mem hx;have:=hc i hin;rw [e] at this;exact this.2.2.2.2.2
theorem sized_atm {ts:List TypeId} {ds:List (DataW H)} (h:(DataW.weightsEach P ts ds).all (·≤reachBytes)=true) {j:Nat} {t:TypeId} {d:DataW H} (ht:ts[j]?=some t) (hd:ds[j]?=some d):∀ n∈d.weights P t,n≤reachBytes:=fun n hn=>by
 have:=List.all_eq_true.1 h n (DataW.weights_mem_each ht hd n hn);simpa using this
end
theorem open_module {H:Type} {enc:TypeId × Value→H} {W:World} {base:Nat} {v:Value} {d:DataW H} {p:List MemPlace} (hv:Value.okWide Tryz.prog W .any base 25 v) (h:DataW.Trod enc Tryz.prog W 0 (fun _=>true) true 25 v d p)
  (hlt:∀ x∈p,x.block<W.heap.size) (hsz:∀ n∈d.weights Tryz.prog 25,n≤reachBytes) :
  ∃ (gen bound:Int) (A:Option Addr) (n c:Nat) (ls:List InstA),v=.agg (modC gen bound A n c)∧n≤3600000000000∧ModS W W.heap.size A n ls∧∀ x∈ls,InstN x:=by
 obtain ⟨v0,v1,v2,y0,y1,y2,n,rfl,rfl,rfl,h0,h1,h2⟩:=open_agg3 Tryz.underlying25 (by kernel_rfl) (by kernel_rfl) hv h
 obtain ⟨x0,hx0,_,hw0⟩:=DataW.trod_int Tryz.underlying22 h0;obtain ⟨x1,hx1,_,hw1⟩:=DataW.trod_int Tryz.underlying22 h1;simp only [List.cons.injEq,and_true] at hx0 hx1;subst hx0 hx1;obtain ⟨A,m,c,ls,rfl,-,hm,hM,hN⟩:=insts_of_trod Tryz.underlying23 Tryz.underlying42 Tryz.underlying39 Tryz.underlying22 Tryz.underlying22 rfl (by kernel_rfl) (by kernel_rfl) (by kernel_rfl)
  Tryz.underlying40 Tryz.underlying44 Tryz.underlying5 Tryz.underlying22 Tryz.underlying9 (by kernel_rfl) (by kernel_rfl) (by kernel_rfl) h2 (fun x hx=>hlt x (by simp [hx])) (fun q hq=>hsz q (by
   simp only [DataW.weights,Tryz.underlying25];exact DataW.weights_mem_each (j:=2) (d:=y2.1) rfl rfl q hq))
 exact ⟨x0,x1,A,m,c,ls,rfl,hm,hM,hN⟩
end
end Go.Proofs.YtdebjkiilnhgpaaGreatDoor
