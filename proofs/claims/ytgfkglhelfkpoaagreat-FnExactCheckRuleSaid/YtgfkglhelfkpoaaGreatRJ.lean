/- Texts put together: WEv5, WEv6, WEv7, WEv8, WEv9. -/
import Derived.Test.YtgfkglhelfkpoaaGreatRI
import Derived.Deep.RegionHeld3
import Derived.Deep.RegionLawGrows
import Derived.StillTailTactics
set_option maxRecDepth 100000
set_option maxHeartbeats 1000000
namespace Go.Proofs.YtgfkglhelfkpoaaGreat
section
open Go.RowKit Plain
theorem letKeep {w w':World} {bv g bk o0 o1:Nat} {v4 a0 a1 a2 a3 a4 b0 b1 b2 b3 b4:Value} (h:w.cell? ⟨g,4,none⟩=some v4∧w.cell? ⟨bk,o0,none⟩=some a0∧w.cell? ⟨bk,o0+1,none⟩=some a1∧w.cell? ⟨bk,o0+2,none⟩=some a2∧w.cell? ⟨bk,o0+3,none⟩=some a3∧w.cell? ⟨bk,o0+4,none⟩=some a4 ∧
   w.cell? ⟨bk,o1,none⟩=some b0∧w.cell? ⟨bk,o1+1,none⟩=some b1∧w.cell? ⟨bk,o1+2,none⟩=some b2∧w.cell? ⟨bk,o1+3,none⟩=some b3∧w.cell? ⟨bk,o1+4,none⟩=some b4)
  (ho:Only (fun q=>q=bv) w w') (hg:g<w.heap.size) (hgn:g≠bv) (hk:bk<w.heap.size) (hkn:bk≠bv) :
  w'.cell? ⟨g,4,none⟩=some v4∧w'.cell? ⟨bk,o0,none⟩=some a0∧w'.cell? ⟨bk,o0+1,none⟩=some a1∧w'.cell? ⟨bk,o0+2,none⟩=some a2∧w'.cell? ⟨bk,o0+3,none⟩=some a3∧w'.cell? ⟨bk,o0+4,none⟩=some a4 ∧
   w'.cell? ⟨bk,o1,none⟩=some b0∧w'.cell? ⟨bk,o1+1,none⟩=some b1∧w'.cell? ⟨bk,o1+2,none⟩=some b2∧w'.cell? ⟨bk,o1+3,none⟩=some b3∧w'.cell? ⟨bk,o1+4,none⟩=some b4:=by
 obtain ⟨h0,h1,h2,h3,h4,h5,h6,h7,h8,h9,h10⟩:=h
 exact ⟨(ho.cell (a:=⟨g,_,none⟩) hg hgn).trans h0,(ho.cell (a:=⟨bk,_,none⟩) hk hkn).trans h1,(ho.cell (a:=⟨bk,_,none⟩) hk hkn).trans h2,(ho.cell (a:=⟨bk,_,none⟩) hk hkn).trans h3,(ho.cell (a:=⟨bk,_,none⟩) hk hkn).trans h4,(ho.cell (a:=⟨bk,_,none⟩) hk hkn).trans h5,
  (ho.cell (a:=⟨bk,_,none⟩) hk hkn).trans h6,(ho.cell (a:=⟨bk,_,none⟩) hk hkn).trans h7,(ho.cell (a:=⟨bk,_,none⟩) hk hkn).trans h8,(ho.cell (a:=⟨bk,_,none⟩) hk hkn).trans h9,(ho.cell (a:=⟨bk,_,none⟩) hk hkn).trans h10⟩
theorem formed_op9 {P:List Fn} {fn vars:Int} {x:Nd} (h:formed P fn vars x=true) (hk:x.k=9):x.ks.len=2:=by
 unfold formed at h
 rw [Bool.and_eq_true,hk,nodeOk_op (N:=2) (.inl ⟨.inr (.inr (.inr (.inr rfl))),rfl⟩)] at h
 simp only [Bool.and_eq_true,beq_iff_eq] at h
 exact h.1.2.2
end
section
open Go.RowKit Plain
theorem formed_opN {P:List Fn} {fn vars:Int} {x:Nd} {N:Nat} (h:formed P fn vars x=true) (hN:opN x.k N):x.ks.len=N:=by
 unfold formed at h
 rw [Bool.and_eq_true,nodeOk_op hN] at h
 simp only [Bool.and_eq_true,beq_iff_eq] at h
 exact h.1.2.2
end
section
open Go.RowKit Plain
structure CallIn (P:List Fn) (m pi:Nat) (c:Int) (ks:Es) (k:Int) (f:Fn) (y:Nd):Prop where
 fn:P[m]? = some f
 par:(ks.len:Int)=f.params
 out:f.outs.get? pi=some y
 p12:ks.len≤12
 o12:f.outs.len≤12
 size:f.outs.size≤400
 each:∀ j z,f.outs.get? j=some z→formed P m ks.len z=true∧z.ks.size≤399∧z.ks.depth≤59
 dep:f.outs.depth≤60
 loop:k=11→0≤c∧c≤8∧f.outs.len=ks.len
 one:k=10→c=0
theorem depth_of {es:Es} {d:Nat} (h:∀ j z,es.get? j=some z→z.ks.depth+1≤d):es.depth≤d:=by
 induction es with
 | nil=>exact Nat.zero_le _
 | cons k n p c ks r _ ih=>
  simp only [Es.depth]
  have h1:=h 0 ⟨k,n,p,c,ks⟩ rfl
  have h2:=ih fun j z hz=>h (j+1) z hz
  simp only at h1
  omega
theorem callIn {P:List Fn} {fn vars:Int} {k n p c:Int} {ks:Es} (hok:progOk P=true) (h:formed P fn vars ⟨k,n,p,c,ks⟩=true) (hk:k=10∨k=11) (hfn:fn≤P.length):∃ (m pi:Nat) (f:Fn) (y:Nd),n=m∧p=pi∧(m:Int)<fn∧CallIn P m pi c ks k f y:=by
 unfold formed at h
 rw [Bool.and_eq_true] at h
 have h1:=h.1
 simp only at h1
 have hn:inR n 0 (fn - 1)=true:=by
  cases hh:inR n 0 (fn - 1)
  ·rw [nodeOk_no hk hh] at h1;cases h1
  ·rfl
 obtain ⟨n0,n1⟩:=inR_true.1 hn
 obtain ⟨m,rfl⟩:=Int.eq_ofNat_of_zero_le n0
 obtain ⟨f,hf⟩:∃ f,P[m]? = some f:=⟨P[m]'(by omega),List.getElem?_eq_getElem _⟩
 rw [nodeOk_call hk (show P[(m:Int).toNat]? = some f from hf) hn] at h1
 rw [Bool.and_eq_true,Bool.and_eq_true] at h1
 have hpar:(ks.len:Int)=f.params:=of_decide_eq_true h1.1.1
 obtain ⟨p0,p1⟩:=inR_true.1 h1.1.2
 obtain ⟨pi,rfl⟩:=Int.eq_ofNat_of_zero_le p0
 obtain ⟨y,hy⟩:=Es.get?_some (show pi<f.outs.len by omega)
 have hfo:=progOk_get hok hf
 unfold fnOk at hfo
 simp only [Bool.and_eq_true,decide_eq_true_eq] at hfo
 obtain ⟨⟨⟨⟨⟨_,_⟩,h12⟩,ho⟩,hex⟩,hsz⟩:=hfo
 have q1:=inR_true.1 h12
 have q2:=inR_true.1 ho
 have heach:∀ j z,f.outs.get? j=some z→formed P m ks.len z=true∧z.ks.size≤399∧z.ks.depth≤59:=fun j z hz=>by
  have:=exprsOk_get hex hz
  unfold exprOk at this
  simp only [Bool.and_eq_true,decide_eq_true_eq] at this
  rw [hpar]
  have a:=this.1.1.2
  have b:=this.1.2
  unfold Nd.size at a
  unfold Nd.depth at b
  exact ⟨this.2,by omega,by omega⟩
 refine ⟨m,pi,f,y,rfl,rfl,by omega,hf,hpar,hy,by omega,by omega,hsz,heach,depth_of fun j z hz=>by have:=(heach j z hz).2.2;omega, ?_, ?_⟩
 ·rintro rfl
  have h2:=h1.2
  rw [if_neg (by omega),Bool.and_eq_true] at h2
  have q3:=inR_true.1 h2.2
  have q4:(f.outs.len:Int)=f.params:=of_decide_eq_true h2.1
  exact ⟨q3.1,q3.2,by omega⟩
 ·rintro rfl
  have h2:=h1.2
  simpa using h2
theorem outAt {w:World} {B:Nat} {P:List Fn} {PA:Option Addr} {m pi:Nat} {f:Fn} {y:Nd} (h:FnSl w B P PA) (hf:P[m]? = some f) (hy:f.outs.get? pi=some y) :
  ∃ bP oP KF cF bk ok,PA=some ⟨bP,oP,none⟩∧bP<B∧w.cell? ⟨bP,oP+m*3+2,none⟩=some (.slice KF f.outs.len cF)∧f.outs.len≤cF∧cF≤maxLen∧KF=some ⟨bk,ok,none⟩∧ExSl w B f.outs KF∧ElAt w B y.k y.n y.p y.c y.ks bk (ok+pi*5):=by
 obtain ⟨bP,oP,rfl,hb,_,_,_,KF,cF,g2,hc,hm,hk⟩:=h.get hf
 obtain ⟨bk,ok,rfl,he⟩:=hk.get hy
 exact ⟨bP,oP,_,cF,bk,ok,rfl,hb,g2,hc,hm,rfl,hk,he⟩
end
section
open Go.RowKit Plain
end
section
open Go.RowKit Plain
theorem formed_kinds {P:List Fn} {fn vars:Int} {x:Nd} (h:formed P fn vars x=true):1≤x.k∧x.k≤11:=by
 unfold formed at h
 rw [Bool.and_eq_true] at h
 by_cases hr:x.k<1∨11<x.k
 ·rw [nodeOk_none hr] at h;cases h.1
 ·omega
end
end Go.Proofs.YtgfkglhelfkpoaaGreat
