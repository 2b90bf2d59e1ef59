/- Texts put together: WERow, WGRow, WSinkS, WAnyInv, WOwnE. -/
import Derived.Test.YtgfkglhelfkpoaaGreatRZ
import Derived.Test.YtgfkglhelfkpoaaGreatRB
import Derived.Laws.OwnMore
import Derived.Maps.AppendAt
import Derived.Test.YtgfkglhelfkpoaaGreatRSL
set_option maxRecDepth 100000
set_option maxHeartbeats 1000000
namespace Go.Proofs.YtgfkglhelfkpoaaGreat
section
open Go.RowKit Plain
theorem step_append_at {P:Program} {w:World} {ops:Array Oper} {o:Oper} {a:Act} {K:Act→World→Prop} {Q:Exit→Act→World→Prop} {E:Prop} (hgd:o.guard=none) (s x:Operand) (t:TypeId)
  (ho:o.op=.call { callee:=.builtin .append,args:=#[s,x],argTypes:=#[t,t] })
  (base:Nat) (e:TypeId) (i:TypeInfo) (z:Value) (size bytes:Nat) (ht:P.underlying t=some (.slice e)) (hi:P.info? e=some i) (hz:i.zero=some z)
  (hsize:i.size=size) (hby:i.bytes=bytes) (hzs:z.cells.size=size) (hsz:0<size)
  (v:Value) (n:Nat) (xs:List Value) (hs:a.eval s=v) (hown:w.ownsRow base e size v n xs)
  (ad:Addr) (m c:Nat) (news:List Value) (hx:a.eval x=.slice (some ad) m c) (hl:news.length=m*size) (hnews:∀ j u,news[j]? = some u→w.cell? (ad.add j)=some u) (h1:∀ u∈news,u.oneCell'=true)
  (h63:n+m≤maxLen) (hbytes:(n+m)*bytes≤140737488355328) (hbase:base≤w.heap.size)
  (h:∀ v' w',w'.ownsRow base e size v' (n+m) (xs++news)→w.grownBy w' v.ownBlock→(v'.ownBlock=v.ownBlock∨v'.ownBlock=some w.heap.size)→K (a.put o.dst v') w') :
  if Region.wanted o (yielded ops a.tmps)=true then Oper.wp P o a w K Q else E:=by
 have hw:Region.wanted o (yielded ops a.tmps)=true:=by simp [Region.wanted,hgd]
 rw [if_pos hw]
 obtain ⟨v',w',hr,h2,h3,_,h5⟩:=run_append_own_at (P:=P) w base t o.type e i z size bytes ht hi hz hsize hby hzs hsz v n xs hown ad m c news hl hnews h1 h63 hbytes hbase
 unfold Oper.wp execOp
 simp only [ho,resolve,invoke,builtin,Sem.run_bind,Sem.run_pure,Result.andThen_ok,List.map_toArray,List.map_cons,List.map_nil,hs,hx,hr]
 exact h v' w' h2 h3 h5
theorem ownsRow_keep5 {w w':World} {base e s n:Nat} {v:Value} {xs:List Value} (h:w.ownsRow base e s v n xs) (hb:∀ g,v.ownBlock=some g→w'.heap[g]? = w.heap[g]?):w'.ownsRow base e s v n xs:=by
 refine ⟨h.1, ?_⟩
 rcases h.2 with hn | ⟨g,cap,cur,rfl,hb',hgg,rest⟩
 ·exact .inl hn
 ·exact .inr ⟨g,cap,cur,rfl,hb',by rw [hb g rfl];exact hgg,rest⟩
end
section
open Go.RowKit Plain
def Outl (F:World→Prop) (w:World) (g:Nat):Prop:=∀ w',w.heap.size≤w'.heap.size→(∀ q,q<w.heap.size→q≠g→w'.heap[q]? = w.heap[q]?)→F w'
theorem Outl.now {F:World→Prop} {w:World} {g:Nat} (h:Outl F w g):F w:=h w (Nat.le_refl _) fun _ _ _=>rfl
theorem Outl.next {F:World→Prop} {w w':World} {g:Nat} (h:Outl F w g) (hs:w.heap.size≤w'.heap.size) (hb:∀ q,q<w.heap.size→q≠g→w'.heap[q]? = w.heap[q]?):Outl F w' g:=
 fun w2 h1 h2=>h w2 (Nat.le_trans hs h1) fun q hq hn=>(h2 q (by omega) hn).trans (hb q hq hn)
theorem Outl.below {F:World→Prop} {w w':World} {g:Nat} (h:Outl F w g) (hb:Below w.heap.size w w'):Outl F w' g:=h.next hb.size fun q hq _=>hb.block q hq
structure GRow (w:World) (B:Nat) (T:TypeId) (sz:Nat) (v:Value) (els:List (List Value×(World→Prop))):Prop where
 own:w.ownsRow B T sz v els.length (els.flatMap (·.1))
 size:B≤w.heap.size
 one:∀ el∈els,el.1.length=sz
 keeps:∀ el∈els,∀ g,(v.ownBlock=some g∨w.heap.size≤g)→Outl el.2 w g
theorem GRow.below {w w':World} {B sz:Nat} {T:TypeId} {v:Value} {els:List (List Value×(World→Prop))} (h:GRow w B T sz v els) (hb:Below w.heap.size w w'):GRow w' B T sz v els:=
 ⟨ownsRow_keep5 h.own fun g hg=>hb.block g (World.ownsRow.lt h.own g hg).2,Nat.le_trans h.size hb.size,h.one,fun el he g hg=>(h.keeps el he g (hg.imp id fun h1=>Nat.le_trans hb.size h1)).below hb⟩
theorem GRow.start (w:World) (T:TypeId) (sz:Nat):GRow (w.alloc (.cells #[] T)) w.heap.size T sz (.slice (some ⟨w.heap.size,0,none⟩) 0 0) []:=
 ⟨World.ownsRow_lit w #[] 0 (Nat.le_refl _) (by unfold maxLen;omega) (by simp),by simp,fun el he=>by simp at he,fun el he=>by simp at he⟩
theorem GRow.form {w:World} {B sz:Nat} {T:TypeId} {v:Value} {els:List (List Value×(World→Prop))} (h:GRow w B T sz v els):∃ A cap,v=.slice A els.length cap∧els.length≤cap∧cap≤maxLen:=by
 rcases h.own.2 with ⟨hv,h0⟩ | ⟨g,cap,cur,hv,_,_,hc,hm,_⟩
 ·exact ⟨none,0,by rw [hv,h0],by omega,by unfold maxLen;omega⟩
 ·exact ⟨_,cap,hv,hc,hm⟩
theorem GRow.lt {w:World} {B sz g:Nat} {T:TypeId} {v:Value} {els:List (List Value×(World→Prop))} (h:GRow w B T sz v els) (hg:v.ownBlock=some g):B≤g∧g<w.heap.size:=World.ownsRow.lt h.own g hg
theorem GRow.push {w w1 w1' w2:World} {B sz:Nat} {T:TypeId} {v v2:Value} {els:List (List Value×(World→Prop))} {el:List Value×(World→Prop)} (h:GRow w B T sz v els) (hb:Below w.heap.size w w1) (hl:el.1.length=sz)
  (hk:∀ g,(v.ownBlock=some g∨w1.heap.size≤g)→Outl el.2 w1 g) (hb1:Below w1.heap.size w1 w1') (hown:w2.ownsRow B T sz v2 (els.length+1) (els.flatMap (·.1)++el.1)) (hg:w1'.grownBy w2 v.ownBlock)
  (hat:v2.ownBlock=v.ownBlock∨v2.ownBlock=some w1'.heap.size):GRow w2 B T sz v2 (els++[el])∧Below B w w2:=by
 have s1:=hb.size
 have s2:=hb1.size
 have s3:=hg.size
 have hB:=h.size
 have key:∀ (F:World→Prop),(∀ g,(v.ownBlock=some g∨w1'.heap.size≤g)→Outl F w1' g)→∀ g,(v2.ownBlock=some g∨w2.heap.size≤g)→Outl F w2 g:=by
  intro F hF g hgg w3 t1 t2
  cases hr:v.ownBlock with
  | none=>
   refine hF w1'.heap.size (.inr (Nat.le_refl _)) w3 (by omega) fun q hq _=>?_
   have hqg:q≠g:=by
    rcases hgg with e | e
    ·rcases hat with e2 | e2
     ·rw [e,hr] at e2;cases e2
     ·rw [e] at e2;injection e2 with e2;omega
    ·omega
   exact (t2 q (by omega) hqg).trans (hg.block q hq (by rw [hr];simp))
  | some g0=>
   refine hF g0 (.inl hr) w3 (by omega) fun q hq hne=>?_
   have hqg:q≠g:=by
    rcases hgg with e | e
    ·rcases hat with e2 | e2
     ·rw [e,hr] at e2;injection e2 with e2;omega
     ·rw [e] at e2;injection e2 with e2;omega
    ·omega
   exact (t2 q (by omega) hqg).trans (hg.block q hq (by rw [hr];intro e;injection e with e;exact hne e))
 refine ⟨⟨?_,by omega,fun x hx=>?_,fun x hx=>?_⟩,⟨hg.os.trans (hb1.os.trans hb.os),hg.tape.trans (hb1.tape.trans hb.tape),hg.output.trans (hb1.output.trans hb.output),by omega,fun i hi=>?_⟩⟩
 ·rw [List.flatMap_append,List.length_append]
  simpa using hown
 ·rcases List.mem_append.1 hx with hx | hx
  ·exact h.one x hx
  ·rw [List.mem_singleton.1 hx];exact hl
 ·refine key x.2 fun g hgg=>?_
  rcases List.mem_append.1 hx with hx | hx
  ·exact ((h.keeps x hx g (hgg.imp id fun e=>by omega)).below hb).below hb1
  ·rw [List.mem_singleton.1 hx]
   exact (hk g (hgg.imp id fun e=>by omega)).below hb1
 ·exact (hg.block i (by omega) fun e=>by have:=(World.ownsRow.lt h.own i e.symm).1;omega).trans ((hb1.block i (by omega)).trans (hb.block i (by omega)))
theorem flat_get {sz:Nat}:∀ {els:List (List Value×(World→Prop))} {i:Nat} {el:List Value×(World→Prop)} {j:Nat},(∀ x∈els,x.1.length=sz)→els[i]? = some el→j<sz→(els.flatMap (·.1))[i*sz+j]? = el.1[j]?
 | [],_,_,_,_,h,_=>by simp at h
 | q :: l,0,el,j,h1,h,hj=>by
  simp only [List.getElem?_cons_zero,Option.some.injEq] at h
  subst h
  rw [List.flatMap_cons,Nat.zero_mul,Nat.zero_add,List.getElem?_append_left (by rw [h1 q (List.mem_cons_self ..)];exact hj)]
 | q :: l,i+1,el,j,h1,h,hj=>by
  have hq:=h1 q (List.mem_cons_self ..)
  rw [List.flatMap_cons,List.getElem?_append_right (by rw [hq,Nat.succ_mul];omega),show (i+1)*sz+j - q.1.length=i*sz+j by rw [hq,Nat.succ_mul];omega]
  exact flat_get (fun x hx=>h1 x (List.mem_cons_of_mem _ hx)) h hj
theorem GRow.read {w:World} {B sz cap:Nat} {T:TypeId} {A:Option Addr} {els:List (List Value×(World→Prop))} (h:GRow w B T sz (.slice A els.length cap) els) (h0:0<els.length) :
  ∃ b,A=some ⟨b,0,none⟩∧B≤b∧b<w.heap.size∧∀ (i:Nat) (el:List Value×(World→Prop)),els[i]? = some el→el.2 w∧(∀ j,j<sz→w.cell? ⟨b,i*sz+j,none⟩=el.1[j]?∧w.frozen? ⟨b,i*sz+j,none⟩=false):=by
 obtain ⟨g,c,hv,hg1,hg2⟩:=World.ownsRow.form h.own h0
 have hA:A=some ⟨g,0,none⟩:=by injection hv
 have hc:cap=c:=by injection hv
 subst hA;subst hc
 refine ⟨g,rfl,hg1,hg2,fun i el he=>⟨(h.keeps el (List.mem_of_getElem? he) g (.inl rfl)).now,fun j hj=>⟨?_,World.ownsRow.frozenAt h.own _⟩⟩⟩
 have hi:i<els.length:=(List.getElem?_eq_some_iff.1 he).1
 have hlt:i*sz+j<els.length*sz:=by
  have:(i+1)*sz≤els.length*sz:=Nat.mul_le_mul_right _ hi
  rw [Nat.succ_mul] at this
  omega
 rw [World.ownsRow.cellAt h.own _ hlt]
 exact flat_get h.one he hj
end
section
open Go
section
variable {P:Program} {ops:Array Oper} {Q:Exit→Act→World→Prop} {S:World→Prop}
end
section
variable {P:Program} {l:List Oper} {Q:Exit→Act→World→Prop} {S:World→Prop} {n:Nat}
end
section
variable {P:Program} {l:List Oper} {Q:Exit→Act→World→Prop} {S:World→Prop} {n:Nat}
end
end
section
open Go
end
section
open Go.RowKit Plain
end
end Go.Proofs.YtgfkglhelfkpoaaGreat
