/- Parts of the proof. -/
import Derived.Test.YtgfkglhelfkpoaaGreatRZA
set_option maxRecDepth 100000
set_option maxHeartbeats 1000000
open Go.Proofs.Tryz
open Go.Value renaming int→I,slice→V
open Go.IntKind renaming i64→J
open Go.Ending renaming returned→If
open Go.Obj renaming cells→Is
open Go renaming World→Iv,Calls→I0,Addr→I3
open Go.RowKit renaming Below→Ix
open Nat renaming le_refl→Jn,le_trans→Mp
namespace Go.Proofs.YtgfkglhelfkpoaaGreat
section
open Go.RowKit Plain
variable{lo hi:Nat}{K:Option I3}{ks:Es}
theorem RV(k n p c:Int)(cap:Nat){y:Int}{w:Iv}(h:jd w lo hi (b_ lo hi ks K))(hz:ks.size<=1048576)(y0:0<=y)(y1:y<=1000000000) :
  I0 Tryz.prog 29 #[exV k n p c K ks.len cap,I J y] w λe w'=>e=If (I J (y+4*ks.size))/\jd w' lo hi (b_ lo hi (rV ks y) K)/\aC (λq=>lo<=q/\q<hi) w w':=by
 have hg:Ix w.heap.size w (w.alloc (Is #[I J k,I J n,I J p,I J c,V K ks.len cap] 33)):=aV;have h2:=h.below hg;obtain⟨b,hb,he⟩:=h2.now;have hs:=h2.size;have hle:=h2.le;have HM:=aj (RX (ks.size+1) ks ah K cap b lo hi y _ (λhn=>⟨(hb hn).1,by have:=hb hn;omega⟩) he hs hz y0 ah);have HO:ak (aC (λq=>lo<=q/\q<hi) w (w.alloc (Is #[I J k,I J n,I J p,I J c,V K ks.len cap] 33))):=aC.of_below hg
 have HB:=aj hb;have HS:=aj hs;clear h h2 hg hb he hs;go_enter func29,ntmps29;go_wp2_with fail;refine HM.o.mono ?_;rintro e w1 ⟨rfl,hE,fC⟩;have dZ:=aj (HO.o.chain fC (λq _ h=>by
  rcases h with ⟨hn,rfl⟩ | h
  ·exact (HB.o hn).2
  ·exact h))
 have qL:ak (jd w1 lo hi (b_ lo hi (rV ks y) K)):=⟨hle,Mp HS.o fC.size,⟨b,λhn=>HB.o (by rwa [qA] at hn),hE⟩,λ_ _ h hb=>h.keep hb⟩
 clear fC HM HO hE;go_wp2;go_ret;exact⟨rfl,qL.o,dZ.o⟩
theorem Fb(k n p c:Int)(cap:Nat){y:Int}{w:Iv}(h:jd w lo hi (b_ lo hi (rV ks y) K))(hz:ks.size<=1048576)(y0:0<=y)(y1:y<=1000000000) :
  I0 Tryz.prog 30 #[exV k n p c K ks.len cap,I J y] w λe w'=>e=If (I J (y+4*ks.size))/\Ix w.heap.size w w':=by
 have hg:Ix w.heap.size w (w.alloc (Is #[I J k,I J n,I J p,I J c,V K ks.len cap] 33)):=aV;have h2:=h.below hg;obtain⟨b,o,hb,he⟩:=h2.now.sl h2.size;rw[qA] at hb;have HM:=aj (Et (ks.size+1) ks ah K cap b o _ y _ hb he (Jn _) hz y0 ah);have HG:=aj hg;have hzz:(0:Int)<=y+4*ks.size:=ah;obtain⟨z,hz2⟩:∃ z,z=y+4*(ks.size:Int):=⟨_,rfl⟩
 rw[<-hz2] at HM hzz;have HZ:=aj hz2;clear h h2 hg hb he hz2;go_enter func30,ntmps30;go_wp2_with fail;refine HM.o.mono ?_;rintro e w1 ⟨rfl,rfl⟩;go_wp2;go_ret;exact⟨bR HZ.o,HG.o⟩
theorem Gj{rY hi':Nat}{K':Option I3}(k n p c:Int)(cap bB:Nat){w:Iv}(h:jd w lo hi (b_ lo hi ks K))(h':jd w rY hi' (b_ rY hi' ks K'))(hz:ks.size<=1048576) :
  I0 Tryz.prog 26 #[exV k n p c K ks.len cap,exV k n p c K' ks.len bB] w λe w'=>e=If (.bool true)/\Ix w.heap.size w w':=
 ql (mF (ks.size+1) ks ah) k n p c K K' cap bB w.heap.size w (h.now.sl h.size) (h'.now.sl h'.size) (Jn _) hz
end
end Go.Proofs.YtgfkglhelfkpoaaGreat
